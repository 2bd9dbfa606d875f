/- EvrBack, walked. -/
import Derived.Test.YtaibdghalhbpnaaDoorEvrOrder
import Derived.Test.YtaibdghalhbpnaaDoorRowLaid
import Derived.Test.YtaibdghalhbpnaaDoorHeld
namespace Go.Proofs.YtaibdghalhbpnaaDoor
open Go.RowKit Go.Shelf

theorem show_yes (e : Evr) (w : World) (hw : e.wf) (hI : EvIn w) (hm : mayB e true = true) : Calls Tryd.prog 48 #[e.val] w fun r w' => r = .returned (.tuple #[.string (bs (showL e)), .int .i64 0]) ∧ Below w.heap.size w w' := by
  have h := evShow_any e w hw hI
  unfold showV at h
  rw [if_pos hm] at h
  exact h
theorem show_no (e : Evr) (w : World) (hw : e.wf) (hI : EvIn w) (hm : mayB e true = false) : Calls Tryd.prog 48 #[e.val] w fun r w' => r = .returned (.tuple #[.string ⟨#[]⟩, .int .i64 4]) ∧ Below w.heap.size w w' := by
  have h := evShow_any e w hw hI
  unfold showV at h
  rw [if_neg (by rw [hm]; decide)] at h
  exact h
theorem may_val (e : Evr) (r : Bool) (w : World) (hw : e.wf) (hm : mayB e true = r) : Calls Tryd.prog 50 #[e.val, .bool true] w fun x w' => x = .returned (.bool r) ∧ Below w.heap.size w w' := by
  subst hm
  exact evMay_any e true w hw
theorem parse_yes (s : ByteArray) (e : Evr) (w : World) (hs : s.size ≤ 1000) (hI : EvIn w) (h : evOf s.toList = some e) : Calls Tryd.prog 53 #[.string s] w fun r w' => r = .returned (.tuple #[e.val, .int .i64 0]) ∧ Below w.heap.size w w' := by
  have g := evParse_any s w (by omega) hI
  unfold parseV at g
  rw [h] at g
  exact g
theorem parse_no (s : ByteArray) (w : World) (hs : s.size ≤ 1000) (hI : EvIn w) (h : evOf s.toList = none) : Calls Tryd.prog 53 #[.string s] w fun r w' => r = .returned (.tuple #[.agg #[.int .i64 0, .string ⟨#[]⟩, .string ⟨#[]⟩], .int .i64 4]) ∧ Below w.heap.size w w' := by
  have g := evParse_any s w (by omega) hI
  unfold parseV at g
  rw [h] at g
  exact g
theorem evr_wf {s : Bytes} {e : Evr} (h : IsEvr s e) : e.wf := by
  obtain ⟨h0, h1, h2, h3⟩ := may_parts h.1
  have hm : (64 : Nat) ≤ maxLen := by decide
  exact ⟨WalkArith.wf_i64 (by omega), Nat.le_trans h2 hm, Nat.le_trans h3 hm⟩
theorem keep_k1 {a : Evr} {n : Nat} {w W W' : World} (h : W.cell? ⟨n, 0, none⟩ = some (.int .i64 a.epoch) ∧ W.cell? ⟨n, 1, none⟩ = some (.string (bs a.ver)) ∧ W.cell? ⟨n, 2, none⟩ = some (.string (bs a.rel)) ∧ n < W.heap.size ∧ Below n w W) (hb : Below W.heap.size W W') :
    W'.cell? ⟨n, 0, none⟩ = some (.int .i64 a.epoch) ∧ W'.cell? ⟨n, 1, none⟩ = some (.string (bs a.ver)) ∧ W'.cell? ⟨n, 2, none⟩ = some (.string (bs a.rel)) ∧ n < W'.heap.size ∧ Below n w W' := by
  obtain ⟨c0_0, c0_1, c0_2, l0, hB⟩ := h
  have hB_le : n ≤ W.heap.size := by omega
  exact ⟨(hb.cell (p := ⟨n, 0, none⟩) l0).trans c0_0, (hb.cell (p := ⟨n, 1, none⟩) l0).trans c0_1, (hb.cell (p := ⟨n, 2, none⟩) l0).trans c0_2, Nat.lt_of_lt_of_le l0 hb.size, hB.trans (hb.mono hB_le)⟩
theorem tail_k1 {a : Evr} {n : Nat} {w W : World} (h : W.cell? ⟨n, 0, none⟩ = some (.int .i64 a.epoch) ∧ W.cell? ⟨n, 1, none⟩ = some (.string (bs a.ver)) ∧ W.cell? ⟨n, 2, none⟩ = some (.string (bs a.rel)) ∧ n < W.heap.size ∧ Below n w W) : Below n w W := h.2.2.2.2
theorem new_k1 (a : Evr) (w : World) : let W := (w.alloc (.cells #[.int .i64 a.epoch, .string (bs a.ver), .string (bs a.rel)] 23)); let n := w.heap.size; W.cell? ⟨n, 0, none⟩ = some (.int .i64 a.epoch) ∧ W.cell? ⟨n, 1, none⟩ = some (.string (bs a.ver)) ∧ W.cell? ⟨n, 2, none⟩ = some (.string (bs a.rel)) ∧ n < W.heap.size ∧ Below n w W := by
  refine ⟨?_, ?_, ?_, ?_, ?_⟩
  all_goals first | exact (World.cell?_alloc_at _ _ _ _ (by simp)).trans rfl | exact ((Below.refl _ _).alloc (by simp; try omega) _) | (simp; try omega)
set_option maxRecDepth 100000 in
set_option maxHeartbeats 16000000 in
theorem evrBack_a (w : World) (hI : EvIn w) (a : Evr) (wa : a.wf) (s : ByteArray) (hs : s.size ≤ maxLen) (la : largeB a = true) : Calls Tryd.prog 20 #[a.val, .string s] w fun e w' => e = .returned (.bool true) ∧ Below w.heap.size w w' := by
  have WK := Lib.hid (fun W (h : Below w.heap.size w W) => works_any W (hI.below h))
  have LA := Lib.hid (fun W => large_any a W wa)
  have S0 := new_k1 a w
  dsimp only at S0
  unfold maxLen at hs
  rw [la] at LA
  clear la hI wa
  unfold Evr.val at *
  go_enter Tryd.func20, Tryd.ntmps20
  go_wp2_with fail
  go_at_call 45
  generalize (w.alloc (.cells #[.int .i64 a.epoch, .string (bs a.ver), .string (bs a.rel)] 23)) = W at *
  generalize hn : w.heap.size = n at *
  obtain ⟨c0_0, c0_1, c0_2, l0, hB⟩ := id S0
  go_wp2_with fail
  go_at_call 45
  refine (WK.out _ hB).mono ?_
  rintro e1 w1 ⟨rfl, h⟩
  have S1 := keep_k1 S0 h
  clear S0 h
  obtain ⟨c0_0, c0_1, c0_2, l0, hB⟩ := id S1
  go_wp2_with fail
  go_at_call 51
  refine (LA.out _).mono ?_
  rintro e2 w2 ⟨rfl, h⟩
  have S2 := keep_k1 S1 h
  clear c0_0 c0_1 c0_2 l0 hB
  clear S1 h
  obtain ⟨c0_0, c0_1, c0_2, l0, hB⟩ := id S2
  go_wp2_with fail
  go_at_call 45
  refine (WK.out _ hB).mono ?_
  rintro e9 w9 ⟨rfl, h⟩
  go_wp2
  go_ret
  exact ⟨rfl, by rw [hn]; exact hB.trans (h.mono (by omega))⟩
set_option maxRecDepth 100000 in
set_option maxHeartbeats 16000000 in
theorem evrBack_s (w : World) (hI : EvIn w) (a : Evr) (wa : a.wf) (s : ByteArray) (hs : s.size ≤ maxLen) (la : largeB a = false) (ls : 1000 < s.size) : Calls Tryd.prog 20 #[a.val, .string s] w fun e w' => e = .returned (.bool true) ∧ Below w.heap.size w w' := by
  have WK := Lib.hid (fun W (h : Below w.heap.size w W) => works_any W (hI.below h))
  have LA := Lib.hid (fun W => large_any a W wa)
  have S0 := new_k1 a w
  dsimp only at S0
  unfold maxLen at hs
  rw [la] at LA
  have ls2 : (1000 : Int) < (s.size : Int) := by omega
  clear la ls hI wa
  unfold Evr.val at *
  go_enter Tryd.func20, Tryd.ntmps20
  go_wp2_with fail
  go_at_call 45
  generalize (w.alloc (.cells #[.int .i64 a.epoch, .string (bs a.ver), .string (bs a.rel)] 23)) = W at *
  generalize hn : w.heap.size = n at *
  obtain ⟨c0_0, c0_1, c0_2, l0, hB⟩ := id S0
  go_wp2_with fail
  go_at_call 45
  refine (WK.out _ hB).mono ?_
  rintro e1 w1 ⟨rfl, h⟩
  have S1 := keep_k1 S0 h
  clear S0 h
  obtain ⟨c0_0, c0_1, c0_2, l0, hB⟩ := id S1
  go_wp2_with fail
  go_at_call 51
  refine (LA.out _).mono ?_
  rintro e2 w2 ⟨rfl, h⟩
  have S2 := keep_k1 S1 h
  clear c0_0 c0_1 c0_2 l0 hB
  clear S1 h
  obtain ⟨c0_0, c0_1, c0_2, l0, hB⟩ := id S2
  go_wp2_with fail
  go_at_call 45
  refine (WK.out _ hB).mono ?_
  rintro e9 w9 ⟨rfl, h⟩
  go_wp2
  go_ret
  exact ⟨rfl, by rw [hn]; exact hB.trans (h.mono (by omega))⟩
set_option maxRecDepth 100000 in
set_option maxHeartbeats 16000000 in
theorem evrBack_00 (w : World) (hI : EvIn w) (a : Evr) (wa : a.wf) (s : ByteArray) (hs : s.size ≤ maxLen) (la : largeB a = false) (ls : s.size ≤ 1000) (hm : mayB a true = false) (he : evOf s.toList = none) : Calls Tryd.prog 20 #[a.val, .string s] w fun e w' => e = .returned (.bool true) ∧ Below w.heap.size w w' := by
  have WK := Lib.hid (fun W (h : Below w.heap.size w W) => works_any W (hI.below h))
  have LA := Lib.hid (fun W => large_any a W wa)
  have S0 := new_k1 a w
  dsimp only at S0
  unfold maxLen at hs
  rw [la] at LA
  have ls2 : (s.size : Int) ≤ 1000 := by omega
  have MY := Lib.hid (fun W => may_val a _ W wa hm)
  have SW := Lib.hid (fun W (h : Below w.heap.size w W) => show_no a W wa (hI.below h) hm)
  have PS := Lib.hid (fun W (h : Below w.heap.size w W) => parse_no s W ls (hI.below h) he)
  clear he
  clear la ls hI wa hm
  unfold Evr.val at *
  go_enter Tryd.func20, Tryd.ntmps20
  go_wp2_with fail
  go_at_call 45
  generalize (w.alloc (.cells #[.int .i64 a.epoch, .string (bs a.ver), .string (bs a.rel)] 23)) = W at *
  generalize hn : w.heap.size = n at *
  obtain ⟨c0_0, c0_1, c0_2, l0, hB⟩ := id S0
  go_wp2_with fail
  go_at_call 45
  refine (WK.out _ hB).mono ?_
  rintro e1 w1 ⟨rfl, h⟩
  have S1 := keep_k1 S0 h
  clear S0 h
  obtain ⟨c0_0, c0_1, c0_2, l0, hB⟩ := id S1
  go_wp2_with fail
  go_at_call 51
  refine (LA.out _).mono ?_
  rintro e2 w2 ⟨rfl, h⟩
  have S2 := keep_k1 S1 h
  clear c0_0 c0_1 c0_2 l0 hB
  clear S1 h
  obtain ⟨c0_0, c0_1, c0_2, l0, hB⟩ := id S2
  go_wp2_with fail
  go_at_call 48
  refine (SW.out _ hB).mono ?_
  rintro e3 w3 ⟨rfl, h⟩
  have S3 := keep_k1 S2 h
  clear c0_0 c0_1 c0_2 l0 hB
  clear S2 h
  obtain ⟨c0_0, c0_1, c0_2, l0, hB⟩ := id S3
  go_wp2_with fail
  refine wp_region_held_drew (S := fun W => W.cell? ⟨n, 0, none⟩ = some (.int .i64 a.epoch) ∧ W.cell? ⟨n, 1, none⟩ = some (.string (bs a.ver)) ∧ W.cell? ⟨n, 2, none⟩ = some (.string (bs a.rel)) ∧ n < W.heap.size ∧ Below n w W) (by kernel_rfl) (by exact ⟨c0_0, c0_1, c0_2, l0, hB.drew⟩) (fun hHeld => ?_)
  refine held_take 0 (some 28) ?_ rfl rfl (by kernel_rfl) (by kernel_rfl) (by kernel_rfl) (fun _ _ _ h => h) (by assumption) (by rfl) ?_ ?_
  rotate_left
  · intro w hSw
    try dsimp only at hSw
    try simp only [List.getElem_toArray, List.getElem_cons_succ, List.getElem_cons_zero]
    go_simp
    try with_reducible rfl
  try simp only [Act.put, List.setIfInBounds_toArray, List.set_cons_zero, List.set_cons_succ]
  refine held_take 1 (some 29) ?_ rfl rfl (by kernel_rfl) (by kernel_rfl) (by kernel_rfl) (fun _ _ _ h => h) (by assumption) (by rfl) ?_ ?_
  rotate_left
  · intro w hSw
    try dsimp only at hSw
    try simp only [List.getElem_toArray, List.getElem_cons_succ, List.getElem_cons_zero]
    go_simp
    try with_reducible rfl
  try simp only [Act.put, List.setIfInBounds_toArray, List.set_cons_zero, List.set_cons_succ]
  refine held_take 2 (some 30) ?_ rfl rfl (by kernel_rfl) (by kernel_rfl) (by kernel_rfl) (fun _ _ _ h => h) (by assumption) (by rfl) ?_ ?_
  rotate_left
  · intro w hSw
    try dsimp only at hSw
    try simp only [List.getElem_toArray, List.getElem_cons_succ, List.getElem_cons_zero]
    go_simp
    try with_reducible rfl
  try simp only [Act.put, List.setIfInBounds_toArray, List.set_cons_zero, List.set_cons_succ]
  refine wpAnyH_ready (rs := [3]) (by kernel_rfl) (by simp) ?_
  refine AllReadyH.cons rfl (fun K hK => ?_) AllReadyH.nil
  try simp only [List.getElem_toArray, List.getElem_cons_succ, List.getElem_cons_zero]
  go_simp
  (go_at_call 50; refine (MY.out _).mono ?_; rintro e' w' ⟨rfl, hbb⟩)
  refine hK.out _ _ (keep_k1 (by assumption) hbb) (fun hHeld => ?_)
  clear hK K
  try simp only [Act.put, List.setIfInBounds_toArray, List.set_cons_zero, List.set_cons_succ]
  refine held_take 4 (some 32) ?_ rfl rfl (by kernel_rfl) (by kernel_rfl) (by kernel_rfl) (fun _ _ _ h => h) (by assumption) (by rfl) ?_ ?_
  rotate_left
  · intro w hSw
    try dsimp only at hSw
    try simp only [List.getElem_toArray, List.getElem_cons_succ, List.getElem_cons_zero]
    go_simp
    try with_reducible rfl
  try simp only [Act.put, List.setIfInBounds_toArray, List.set_cons_zero, List.set_cons_succ]
  refine held_take 5 (some 33) ?_ rfl rfl (by kernel_rfl) (by kernel_rfl) (by kernel_rfl) (fun _ _ _ h => h) (by assumption) (by rfl) ?_ ?_
  rotate_left
  · intro w hSw
    try dsimp only at hSw
    try simp only [List.getElem_toArray, List.getElem_cons_succ, List.getElem_cons_zero]
    go_simp
    try with_reducible rfl
  try simp only [Act.put, List.setIfInBounds_toArray, List.set_cons_zero, List.set_cons_succ]
  refine held_take 6 (some 34) ?_ rfl rfl (by kernel_rfl) (by kernel_rfl) (by kernel_rfl) (fun _ _ _ h => h) (by assumption) (by rfl) ?_ ?_
  rotate_left
  · intro w hSw
    try dsimp only at hSw
    try simp only [List.getElem_toArray, List.getElem_cons_succ, List.getElem_cons_zero]
    go_simp
    try with_reducible rfl
  try simp only [Act.put, List.setIfInBounds_toArray, List.set_cons_zero, List.set_cons_succ]
  refine held_take 7 (some 35) ?_ rfl rfl (by kernel_rfl) (by kernel_rfl) (by kernel_rfl) (fun _ _ _ h => h) (by assumption) (by rfl) ?_ ?_
  rotate_left
  · intro w hSw
    try dsimp only at hSw
    try simp only [List.getElem_toArray, List.getElem_cons_succ, List.getElem_cons_zero]
    go_simp
    try with_reducible rfl
  try simp only [Act.put, List.setIfInBounds_toArray, List.set_cons_zero, List.set_cons_succ]
  refine held_take 8 (some 36) ?_ rfl rfl (by kernel_rfl) (by kernel_rfl) (by kernel_rfl) (fun _ _ _ h => h) (by assumption) (by rfl) ?_ ?_
  rotate_left
  · intro w hSw
    try dsimp only at hSw
    try simp only [List.getElem_toArray, List.getElem_cons_succ, List.getElem_cons_zero]
    go_simp
    try with_reducible rfl
  try simp only [Act.put, List.setIfInBounds_toArray, List.set_cons_zero, List.set_cons_succ]
  refine held_take 9 (some 37) ?_ rfl rfl (by kernel_rfl) (by kernel_rfl) (by kernel_rfl) (fun _ _ _ h => h) (by assumption) (by rfl) ?_ ?_
  rotate_left
  · intro w hSw
    try dsimp only at hSw
    try simp only [List.getElem_toArray, List.getElem_cons_succ, List.getElem_cons_zero]
    go_simp
    try with_reducible rfl
  try simp only [Act.put, List.setIfInBounds_toArray, List.set_cons_zero, List.set_cons_succ]
  refine held_take 10 (some 38) ?_ rfl rfl (by kernel_rfl) (by kernel_rfl) (by kernel_rfl) (fun _ _ _ h => h) (by assumption) (by rfl) ?_ ?_
  rotate_left
  · intro w hSw
    try dsimp only at hSw
    try simp only [List.getElem_toArray, List.getElem_cons_succ, List.getElem_cons_zero]
    go_simp
    try with_reducible rfl
  try simp only [Act.put, List.setIfInBounds_toArray, List.set_cons_zero, List.set_cons_succ]
  refine held_take 11 (some 39) ?_ rfl rfl (by kernel_rfl) (by kernel_rfl) (by kernel_rfl) (fun _ _ _ h => h) (by assumption) (by rfl) ?_ ?_
  rotate_left
  · intro w hSw
    try dsimp only at hSw
    try simp only [List.getElem_toArray, List.getElem_cons_succ, List.getElem_cons_zero]
    go_simp
    try with_reducible rfl
  try simp only [Act.put, List.setIfInBounds_toArray, List.set_cons_zero, List.set_cons_succ]
  refine held_take 12 (some 40) ?_ rfl rfl (by kernel_rfl) (by kernel_rfl) (by kernel_rfl) (fun _ _ _ h => h) (by assumption) (by rfl) ?_ ?_
  rotate_left
  · intro w hSw
    try dsimp only at hSw
    try simp only [List.getElem_toArray, List.getElem_cons_succ, List.getElem_cons_zero]
    go_simp
    try with_reducible rfl
  try simp only [Act.put, List.setIfInBounds_toArray, List.set_cons_zero, List.set_cons_succ]
  refine held_take 13 (some 41) ?_ rfl rfl (by kernel_rfl) (by kernel_rfl) (by kernel_rfl) (fun _ _ _ h => h) (by assumption) (by rfl) ?_ ?_
  rotate_left
  · intro w hSw
    try dsimp only at hSw
    try simp only [List.getElem_toArray, List.getElem_cons_succ, List.getElem_cons_zero]
    go_simp
    try with_reducible rfl
  try simp only [Act.put, List.setIfInBounds_toArray, List.set_cons_zero, List.set_cons_succ]
  refine held_take 14 (some 42) ?_ rfl rfl (by kernel_rfl) (by kernel_rfl) (by kernel_rfl) (fun _ _ _ h => h) (by assumption) (by rfl) ?_ ?_
  rotate_left
  · intro w hSw
    try dsimp only at hSw
    try simp only [List.getElem_toArray, List.getElem_cons_succ, List.getElem_cons_zero]
    go_simp
    try with_reducible rfl
  try simp only [Act.put, List.setIfInBounds_toArray, List.set_cons_zero, List.set_cons_succ]
  refine held_take 15 (some 43) ?_ rfl rfl (by kernel_rfl) (by kernel_rfl) (by kernel_rfl) (fun _ _ _ h => h) (by assumption) (by rfl) ?_ ?_
  rotate_left
  · intro w hSw
    try dsimp only at hSw
    try simp only [List.getElem_toArray, List.getElem_cons_succ, List.getElem_cons_zero]
    go_simp
    try with_reducible rfl
  try simp only [Act.put, List.setIfInBounds_toArray, List.set_cons_zero, List.set_cons_succ]
  refine held_take 16 (some 44) ?_ rfl rfl (by kernel_rfl) (by kernel_rfl) (by kernel_rfl) (fun _ _ _ h => h) (by assumption) (by rfl) ?_ ?_
  rotate_left
  · intro w hSw
    try dsimp only at hSw
    try simp only [List.getElem_toArray, List.getElem_cons_succ, List.getElem_cons_zero]
    go_simp
    try with_reducible rfl
  try simp only [Act.put, List.setIfInBounds_toArray, List.set_cons_zero, List.set_cons_succ]
  refine held_skip 17 (some 45) rfl rfl (by kernel_rfl) (by kernel_rfl) (by kernel_rfl) (fun _ _ _ h => h) (by assumption) (by rfl) ?_
  try simp only [Act.put, List.setIfInBounds_toArray, List.set_cons_zero, List.set_cons_succ]
  refine held_skip 18 (some 46) rfl rfl (by kernel_rfl) (by kernel_rfl) (by kernel_rfl) (fun _ _ _ h => h) (by assumption) (by rfl) ?_
  try simp only [Act.put, List.setIfInBounds_toArray, List.set_cons_zero, List.set_cons_succ]
  refine held_skip 19 (some 47) rfl rfl (by kernel_rfl) (by kernel_rfl) (by kernel_rfl) (fun _ _ _ h => h) (by assumption) (by rfl) ?_
  try simp only [Act.put, List.setIfInBounds_toArray, List.set_cons_zero, List.set_cons_succ]
  refine held_skip 20 (some 48) rfl rfl (by kernel_rfl) (by kernel_rfl) (by kernel_rfl) (fun _ _ _ h => h) (by assumption) (by rfl) ?_
  try simp only [Act.put, List.setIfInBounds_toArray, List.set_cons_zero, List.set_cons_succ]
  refine held_take 21 (some 49) ?_ rfl rfl (by kernel_rfl) (by kernel_rfl) (by kernel_rfl) (fun _ _ _ h => h) (by assumption) (by rfl) ?_ ?_
  rotate_left
  · intro w hSw
    try dsimp only at hSw
    try simp only [List.getElem_toArray, List.getElem_cons_succ, List.getElem_cons_zero]
    go_simp
    try with_reducible rfl
  try simp only [Act.put, List.setIfInBounds_toArray, List.set_cons_zero, List.set_cons_succ]
  refine held_take 22 (some 50) ?_ rfl rfl (by kernel_rfl) (by kernel_rfl) (by kernel_rfl) (fun _ _ _ h => h) (by assumption) (by rfl) ?_ ?_
  rotate_left
  · intro w hSw
    try dsimp only at hSw
    try simp only [List.getElem_toArray, List.getElem_cons_succ, List.getElem_cons_zero]
    go_simp
    try with_reducible rfl
  try simp only [Act.put, List.setIfInBounds_toArray, List.set_cons_zero, List.set_cons_succ]
  refine wpAnyH_done (by kernel_rfl) ?_ _
  have S4 := hHeld
  clear c0_0 c0_1 c0_2 l0 hB S3
  obtain ⟨c0_0, c0_1, c0_2, l0, hB⟩ := id S4
  go_wp2_with fail
  go_at_call 53
  refine (PS.out _ hB).mono ?_
  rintro e7 w7 ⟨rfl, h7⟩
  have B7 := hB.trans (h7.mono (by omega))
  go_wp2_with fail
  go_ret
  exact ⟨rfl, by rw [hn]; exact B7.alloc (by have := h7.size; omega) _⟩
set_option maxRecDepth 100000 in
set_option maxHeartbeats 16000000 in
theorem evrBack_01 (w : World) (hI : EvIn w) (a : Evr) (wa : a.wf) (s : ByteArray) (hs : s.size ≤ maxLen) (la : largeB a = false) (ls : s.size ≤ 1000) (hm : mayB a true = false) (he : ∃ e, evOf s.toList = some e) : Calls Tryd.prog 20 #[a.val, .string s] w fun e w' => e = .returned (.bool true) ∧ Below w.heap.size w w' := by
  have WK := Lib.hid (fun W (h : Below w.heap.size w W) => works_any W (hI.below h))
  have LA := Lib.hid (fun W => large_any a W wa)
  have S0 := new_k1 a w
  dsimp only at S0
  unfold maxLen at hs
  rw [la] at LA
  have ls2 : (s.size : Int) ≤ 1000 := by omega
  have MY := Lib.hid (fun W => may_val a _ W wa hm)
  have SW := Lib.hid (fun W (h : Below w.heap.size w W) => show_no a W wa (hI.below h) hm)
  obtain ⟨e, he⟩ := he
  have hx := evOf_iff.1 he
  have PS := Lib.hid (fun W (h : Below w.heap.size w W) => parse_yes s e W ls (hI.below h) he)
  have SX := Lib.hid (fun W (h : Below w.heap.size w W) => show_yes e W (evr_wf hx) (hI.below h) hx.1)
  rw [hx.2, bs_of] at SX
  have MX := Lib.hid (fun W => may_val e _ W (evr_wf hx) hx.1)
  clear he hx
  clear la ls hI wa hm
  unfold Evr.val at *
  go_enter Tryd.func20, Tryd.ntmps20
  go_wp2_with fail
  go_at_call 45
  generalize (w.alloc (.cells #[.int .i64 a.epoch, .string (bs a.ver), .string (bs a.rel)] 23)) = W at *
  generalize hn : w.heap.size = n at *
  obtain ⟨c0_0, c0_1, c0_2, l0, hB⟩ := id S0
  go_wp2_with fail
  go_at_call 45
  refine (WK.out _ hB).mono ?_
  rintro e1 w1 ⟨rfl, h⟩
  have S1 := keep_k1 S0 h
  clear S0 h
  obtain ⟨c0_0, c0_1, c0_2, l0, hB⟩ := id S1
  go_wp2_with fail
  go_at_call 51
  refine (LA.out _).mono ?_
  rintro e2 w2 ⟨rfl, h⟩
  have S2 := keep_k1 S1 h
  clear c0_0 c0_1 c0_2 l0 hB
  clear S1 h
  obtain ⟨c0_0, c0_1, c0_2, l0, hB⟩ := id S2
  go_wp2_with fail
  go_at_call 48
  refine (SW.out _ hB).mono ?_
  rintro e3 w3 ⟨rfl, h⟩
  have S3 := keep_k1 S2 h
  clear c0_0 c0_1 c0_2 l0 hB
  clear S2 h
  obtain ⟨c0_0, c0_1, c0_2, l0, hB⟩ := id S3
  go_wp2_with fail
  refine wp_region_held_drew (S := fun W => W.cell? ⟨n, 0, none⟩ = some (.int .i64 a.epoch) ∧ W.cell? ⟨n, 1, none⟩ = some (.string (bs a.ver)) ∧ W.cell? ⟨n, 2, none⟩ = some (.string (bs a.rel)) ∧ n < W.heap.size ∧ Below n w W) (by kernel_rfl) (by exact ⟨c0_0, c0_1, c0_2, l0, hB.drew⟩) (fun hHeld => ?_)
  refine held_take 0 (some 28) ?_ rfl rfl (by kernel_rfl) (by kernel_rfl) (by kernel_rfl) (fun _ _ _ h => h) (by assumption) (by rfl) ?_ ?_
  rotate_left
  · intro w hSw
    try dsimp only at hSw
    try simp only [List.getElem_toArray, List.getElem_cons_succ, List.getElem_cons_zero]
    go_simp
    try with_reducible rfl
  try simp only [Act.put, List.setIfInBounds_toArray, List.set_cons_zero, List.set_cons_succ]
  refine held_take 1 (some 29) ?_ rfl rfl (by kernel_rfl) (by kernel_rfl) (by kernel_rfl) (fun _ _ _ h => h) (by assumption) (by rfl) ?_ ?_
  rotate_left
  · intro w hSw
    try dsimp only at hSw
    try simp only [List.getElem_toArray, List.getElem_cons_succ, List.getElem_cons_zero]
    go_simp
    try with_reducible rfl
  try simp only [Act.put, List.setIfInBounds_toArray, List.set_cons_zero, List.set_cons_succ]
  refine held_take 2 (some 30) ?_ rfl rfl (by kernel_rfl) (by kernel_rfl) (by kernel_rfl) (fun _ _ _ h => h) (by assumption) (by rfl) ?_ ?_
  rotate_left
  · intro w hSw
    try dsimp only at hSw
    try simp only [List.getElem_toArray, List.getElem_cons_succ, List.getElem_cons_zero]
    go_simp
    try with_reducible rfl
  try simp only [Act.put, List.setIfInBounds_toArray, List.set_cons_zero, List.set_cons_succ]
  refine wpAnyH_ready (rs := [3]) (by kernel_rfl) (by simp) ?_
  refine AllReadyH.cons rfl (fun K hK => ?_) AllReadyH.nil
  try simp only [List.getElem_toArray, List.getElem_cons_succ, List.getElem_cons_zero]
  go_simp
  (go_at_call 50; refine (MY.out _).mono ?_; rintro e' w' ⟨rfl, hbb⟩)
  refine hK.out _ _ (keep_k1 (by assumption) hbb) (fun hHeld => ?_)
  clear hK K
  try simp only [Act.put, List.setIfInBounds_toArray, List.set_cons_zero, List.set_cons_succ]
  refine held_take 4 (some 32) ?_ rfl rfl (by kernel_rfl) (by kernel_rfl) (by kernel_rfl) (fun _ _ _ h => h) (by assumption) (by rfl) ?_ ?_
  rotate_left
  · intro w hSw
    try dsimp only at hSw
    try simp only [List.getElem_toArray, List.getElem_cons_succ, List.getElem_cons_zero]
    go_simp
    try with_reducible rfl
  try simp only [Act.put, List.setIfInBounds_toArray, List.set_cons_zero, List.set_cons_succ]
  refine held_take 5 (some 33) ?_ rfl rfl (by kernel_rfl) (by kernel_rfl) (by kernel_rfl) (fun _ _ _ h => h) (by assumption) (by rfl) ?_ ?_
  rotate_left
  · intro w hSw
    try dsimp only at hSw
    try simp only [List.getElem_toArray, List.getElem_cons_succ, List.getElem_cons_zero]
    go_simp
    try with_reducible rfl
  try simp only [Act.put, List.setIfInBounds_toArray, List.set_cons_zero, List.set_cons_succ]
  refine held_take 6 (some 34) ?_ rfl rfl (by kernel_rfl) (by kernel_rfl) (by kernel_rfl) (fun _ _ _ h => h) (by assumption) (by rfl) ?_ ?_
  rotate_left
  · intro w hSw
    try dsimp only at hSw
    try simp only [List.getElem_toArray, List.getElem_cons_succ, List.getElem_cons_zero]
    go_simp
    try with_reducible rfl
  try simp only [Act.put, List.setIfInBounds_toArray, List.set_cons_zero, List.set_cons_succ]
  refine held_take 7 (some 35) ?_ rfl rfl (by kernel_rfl) (by kernel_rfl) (by kernel_rfl) (fun _ _ _ h => h) (by assumption) (by rfl) ?_ ?_
  rotate_left
  · intro w hSw
    try dsimp only at hSw
    try simp only [List.getElem_toArray, List.getElem_cons_succ, List.getElem_cons_zero]
    go_simp
    try with_reducible rfl
  try simp only [Act.put, List.setIfInBounds_toArray, List.set_cons_zero, List.set_cons_succ]
  refine held_take 8 (some 36) ?_ rfl rfl (by kernel_rfl) (by kernel_rfl) (by kernel_rfl) (fun _ _ _ h => h) (by assumption) (by rfl) ?_ ?_
  rotate_left
  · intro w hSw
    try dsimp only at hSw
    try simp only [List.getElem_toArray, List.getElem_cons_succ, List.getElem_cons_zero]
    go_simp
    try with_reducible rfl
  try simp only [Act.put, List.setIfInBounds_toArray, List.set_cons_zero, List.set_cons_succ]
  refine held_take 9 (some 37) ?_ rfl rfl (by kernel_rfl) (by kernel_rfl) (by kernel_rfl) (fun _ _ _ h => h) (by assumption) (by rfl) ?_ ?_
  rotate_left
  · intro w hSw
    try dsimp only at hSw
    try simp only [List.getElem_toArray, List.getElem_cons_succ, List.getElem_cons_zero]
    go_simp
    try with_reducible rfl
  try simp only [Act.put, List.setIfInBounds_toArray, List.set_cons_zero, List.set_cons_succ]
  refine held_take 10 (some 38) ?_ rfl rfl (by kernel_rfl) (by kernel_rfl) (by kernel_rfl) (fun _ _ _ h => h) (by assumption) (by rfl) ?_ ?_
  rotate_left
  · intro w hSw
    try dsimp only at hSw
    try simp only [List.getElem_toArray, List.getElem_cons_succ, List.getElem_cons_zero]
    go_simp
    try with_reducible rfl
  try simp only [Act.put, List.setIfInBounds_toArray, List.set_cons_zero, List.set_cons_succ]
  refine held_take 11 (some 39) ?_ rfl rfl (by kernel_rfl) (by kernel_rfl) (by kernel_rfl) (fun _ _ _ h => h) (by assumption) (by rfl) ?_ ?_
  rotate_left
  · intro w hSw
    try dsimp only at hSw
    try simp only [List.getElem_toArray, List.getElem_cons_succ, List.getElem_cons_zero]
    go_simp
    try with_reducible rfl
  try simp only [Act.put, List.setIfInBounds_toArray, List.set_cons_zero, List.set_cons_succ]
  refine held_take 12 (some 40) ?_ rfl rfl (by kernel_rfl) (by kernel_rfl) (by kernel_rfl) (fun _ _ _ h => h) (by assumption) (by rfl) ?_ ?_
  rotate_left
  · intro w hSw
    try dsimp only at hSw
    try simp only [List.getElem_toArray, List.getElem_cons_succ, List.getElem_cons_zero]
    go_simp
    try with_reducible rfl
  try simp only [Act.put, List.setIfInBounds_toArray, List.set_cons_zero, List.set_cons_succ]
  refine held_take 13 (some 41) ?_ rfl rfl (by kernel_rfl) (by kernel_rfl) (by kernel_rfl) (fun _ _ _ h => h) (by assumption) (by rfl) ?_ ?_
  rotate_left
  · intro w hSw
    try dsimp only at hSw
    try simp only [List.getElem_toArray, List.getElem_cons_succ, List.getElem_cons_zero]
    go_simp
    try with_reducible rfl
  try simp only [Act.put, List.setIfInBounds_toArray, List.set_cons_zero, List.set_cons_succ]
  refine held_take 14 (some 42) ?_ rfl rfl (by kernel_rfl) (by kernel_rfl) (by kernel_rfl) (fun _ _ _ h => h) (by assumption) (by rfl) ?_ ?_
  rotate_left
  · intro w hSw
    try dsimp only at hSw
    try simp only [List.getElem_toArray, List.getElem_cons_succ, List.getElem_cons_zero]
    go_simp
    try with_reducible rfl
  try simp only [Act.put, List.setIfInBounds_toArray, List.set_cons_zero, List.set_cons_succ]
  refine held_take 15 (some 43) ?_ rfl rfl (by kernel_rfl) (by kernel_rfl) (by kernel_rfl) (fun _ _ _ h => h) (by assumption) (by rfl) ?_ ?_
  rotate_left
  · intro w hSw
    try dsimp only at hSw
    try simp only [List.getElem_toArray, List.getElem_cons_succ, List.getElem_cons_zero]
    go_simp
    try with_reducible rfl
  try simp only [Act.put, List.setIfInBounds_toArray, List.set_cons_zero, List.set_cons_succ]
  refine held_take 16 (some 44) ?_ rfl rfl (by kernel_rfl) (by kernel_rfl) (by kernel_rfl) (fun _ _ _ h => h) (by assumption) (by rfl) ?_ ?_
  rotate_left
  · intro w hSw
    try dsimp only at hSw
    try simp only [List.getElem_toArray, List.getElem_cons_succ, List.getElem_cons_zero]
    go_simp
    try with_reducible rfl
  try simp only [Act.put, List.setIfInBounds_toArray, List.set_cons_zero, List.set_cons_succ]
  refine held_skip 17 (some 45) rfl rfl (by kernel_rfl) (by kernel_rfl) (by kernel_rfl) (fun _ _ _ h => h) (by assumption) (by rfl) ?_
  try simp only [Act.put, List.setIfInBounds_toArray, List.set_cons_zero, List.set_cons_succ]
  refine held_skip 18 (some 46) rfl rfl (by kernel_rfl) (by kernel_rfl) (by kernel_rfl) (fun _ _ _ h => h) (by assumption) (by rfl) ?_
  try simp only [Act.put, List.setIfInBounds_toArray, List.set_cons_zero, List.set_cons_succ]
  refine held_skip 19 (some 47) rfl rfl (by kernel_rfl) (by kernel_rfl) (by kernel_rfl) (fun _ _ _ h => h) (by assumption) (by rfl) ?_
  try simp only [Act.put, List.setIfInBounds_toArray, List.set_cons_zero, List.set_cons_succ]
  refine held_skip 20 (some 48) rfl rfl (by kernel_rfl) (by kernel_rfl) (by kernel_rfl) (fun _ _ _ h => h) (by assumption) (by rfl) ?_
  try simp only [Act.put, List.setIfInBounds_toArray, List.set_cons_zero, List.set_cons_succ]
  refine held_take 21 (some 49) ?_ rfl rfl (by kernel_rfl) (by kernel_rfl) (by kernel_rfl) (fun _ _ _ h => h) (by assumption) (by rfl) ?_ ?_
  rotate_left
  · intro w hSw
    try dsimp only at hSw
    try simp only [List.getElem_toArray, List.getElem_cons_succ, List.getElem_cons_zero]
    go_simp
    try with_reducible rfl
  try simp only [Act.put, List.setIfInBounds_toArray, List.set_cons_zero, List.set_cons_succ]
  refine held_take 22 (some 50) ?_ rfl rfl (by kernel_rfl) (by kernel_rfl) (by kernel_rfl) (fun _ _ _ h => h) (by assumption) (by rfl) ?_ ?_
  rotate_left
  · intro w hSw
    try dsimp only at hSw
    try simp only [List.getElem_toArray, List.getElem_cons_succ, List.getElem_cons_zero]
    go_simp
    try with_reducible rfl
  try simp only [Act.put, List.setIfInBounds_toArray, List.set_cons_zero, List.set_cons_succ]
  refine wpAnyH_done (by kernel_rfl) ?_ _
  have S4 := hHeld
  clear c0_0 c0_1 c0_2 l0 hB S3
  obtain ⟨c0_0, c0_1, c0_2, l0, hB⟩ := id S4
  go_wp2_with fail
  go_at_call 53
  refine (PS.out _ hB).mono ?_
  rintro e7 w7 ⟨rfl, h7⟩
  have B7 := hB.trans (h7.mono (by omega))
  go_wp2_with fail
  have B8 : Below n w (w7.alloc (.cells #[.int .i64 e.epoch, .string (bs e.ver), .string (bs e.rel)] 23)) := B7.alloc (by have := h7.size; omega) _
  go_at_call 48
  refine (SX.out _ B8).mono ?_
  rintro e9 w9 ⟨rfl, h9⟩
  obtain ⟨hc9, hf9⟩ := bcell h9
  have hz9 : w7.heap.size < w9.heap.size := by have := h9.size; simp at this; omega
  go_wp2_with fail
  go_at_call 50
  refine (MX.out _).mono ?_
  rintro e10 w10 ⟨rfl, h10⟩
  go_wp2_with fail
  go_ret
  exact ⟨rfl, by rw [hn]; exact B8.trans ((h9.trans (h10.mono h9.size)).mono (by have := h7.size; simp; omega))⟩
set_option maxRecDepth 100000 in
set_option maxHeartbeats 16000000 in
theorem evrBack_10 (w : World) (hI : EvIn w) (a : Evr) (wa : a.wf) (s : ByteArray) (hs : s.size ≤ maxLen) (la : largeB a = false) (ls : s.size ≤ 1000) (hm : mayB a true = true) (he : evOf s.toList = none) : Calls Tryd.prog 20 #[a.val, .string s] w fun e w' => e = .returned (.bool true) ∧ Below w.heap.size w w' := by
  have WK := Lib.hid (fun W (h : Below w.heap.size w W) => works_any W (hI.below h))
  have LA := Lib.hid (fun W => large_any a W wa)
  have S0 := new_k1 a w
  dsimp only at S0
  unfold maxLen at hs
  rw [la] at LA
  have ls2 : (s.size : Int) ≤ 1000 := by omega
  have MY := Lib.hid (fun W => may_val a _ W wa hm)
  have SW := Lib.hid (fun W (h : Below w.heap.size w W) => show_yes a W wa (hI.below h) hm)
  have OF := Lib.hid (fun W (h : Below w.heap.size w W) => of_any (bs (showL a)) W (by rw [bs_size]; have := showL_len hm; omega) (hI.below h))
  rw [bs_toList, of_some (s := showL a) (e := a) ⟨hm, rfl⟩] at OF
  generalize bs (showL a) = T at *
  have PS := Lib.hid (fun W (h : Below w.heap.size w W) => parse_no s W ls (hI.below h) he)
  clear he
  clear la ls hI wa hm
  unfold Evr.val at *
  go_enter Tryd.func20, Tryd.ntmps20
  go_wp2_with fail
  go_at_call 45
  generalize (w.alloc (.cells #[.int .i64 a.epoch, .string (bs a.ver), .string (bs a.rel)] 23)) = W at *
  generalize hn : w.heap.size = n at *
  obtain ⟨c0_0, c0_1, c0_2, l0, hB⟩ := id S0
  go_wp2_with fail
  go_at_call 45
  refine (WK.out _ hB).mono ?_
  rintro e1 w1 ⟨rfl, h⟩
  have S1 := keep_k1 S0 h
  clear S0 h
  obtain ⟨c0_0, c0_1, c0_2, l0, hB⟩ := id S1
  go_wp2_with fail
  go_at_call 51
  refine (LA.out _).mono ?_
  rintro e2 w2 ⟨rfl, h⟩
  have S2 := keep_k1 S1 h
  clear c0_0 c0_1 c0_2 l0 hB
  clear S1 h
  obtain ⟨c0_0, c0_1, c0_2, l0, hB⟩ := id S2
  go_wp2_with fail
  go_at_call 48
  refine (SW.out _ hB).mono ?_
  rintro e3 w3 ⟨rfl, h⟩
  have S3 := keep_k1 S2 h
  clear c0_0 c0_1 c0_2 l0 hB
  clear S2 h
  obtain ⟨c0_0, c0_1, c0_2, l0, hB⟩ := id S3
  go_wp2_with fail
  refine wp_region_held_drew (S := fun W => W.cell? ⟨n, 0, none⟩ = some (.int .i64 a.epoch) ∧ W.cell? ⟨n, 1, none⟩ = some (.string (bs a.ver)) ∧ W.cell? ⟨n, 2, none⟩ = some (.string (bs a.rel)) ∧ n < W.heap.size ∧ Below n w W) (by kernel_rfl) (by exact ⟨c0_0, c0_1, c0_2, l0, hB.drew⟩) (fun hHeld => ?_)
  refine held_take 0 (some 28) ?_ rfl rfl (by kernel_rfl) (by kernel_rfl) (by kernel_rfl) (fun _ _ _ h => h) (by assumption) (by rfl) ?_ ?_
  rotate_left
  · intro w hSw
    try dsimp only at hSw
    try simp only [List.getElem_toArray, List.getElem_cons_succ, List.getElem_cons_zero]
    go_simp
    try with_reducible rfl
  try simp only [Act.put, List.setIfInBounds_toArray, List.set_cons_zero, List.set_cons_succ]
  refine held_take 1 (some 29) ?_ rfl rfl (by kernel_rfl) (by kernel_rfl) (by kernel_rfl) (fun _ _ _ h => h) (by assumption) (by rfl) ?_ ?_
  rotate_left
  · intro w hSw
    try dsimp only at hSw
    try simp only [List.getElem_toArray, List.getElem_cons_succ, List.getElem_cons_zero]
    go_simp
    try with_reducible rfl
  try simp only [Act.put, List.setIfInBounds_toArray, List.set_cons_zero, List.set_cons_succ]
  refine held_take 2 (some 30) ?_ rfl rfl (by kernel_rfl) (by kernel_rfl) (by kernel_rfl) (fun _ _ _ h => h) (by assumption) (by rfl) ?_ ?_
  rotate_left
  · intro w hSw
    try dsimp only at hSw
    try simp only [List.getElem_toArray, List.getElem_cons_succ, List.getElem_cons_zero]
    go_simp
    try with_reducible rfl
  try simp only [Act.put, List.setIfInBounds_toArray, List.set_cons_zero, List.set_cons_succ]
  refine wpAnyH_ready (rs := [3]) (by kernel_rfl) (by simp) ?_
  refine AllReadyH.cons rfl (fun K hK => ?_) AllReadyH.nil
  try simp only [List.getElem_toArray, List.getElem_cons_succ, List.getElem_cons_zero]
  go_simp
  (go_at_call 50; refine (MY.out _).mono ?_; rintro e' w' ⟨rfl, hbb⟩)
  refine hK.out _ _ (keep_k1 (by assumption) hbb) (fun hHeld => ?_)
  clear hK K
  try simp only [Act.put, List.setIfInBounds_toArray, List.set_cons_zero, List.set_cons_succ]
  refine held_take 4 (some 32) ?_ rfl rfl (by kernel_rfl) (by kernel_rfl) (by kernel_rfl) (fun _ _ _ h => h) (by assumption) (by rfl) ?_ ?_
  rotate_left
  · intro w hSw
    try dsimp only at hSw
    try simp only [List.getElem_toArray, List.getElem_cons_succ, List.getElem_cons_zero]
    go_simp
    try with_reducible rfl
  try simp only [Act.put, List.setIfInBounds_toArray, List.set_cons_zero, List.set_cons_succ]
  refine held_take 5 (some 33) ?_ rfl rfl (by kernel_rfl) (by kernel_rfl) (by kernel_rfl) (fun _ _ _ h => h) (by assumption) (by rfl) ?_ ?_
  rotate_left
  · intro w hSw
    try dsimp only at hSw
    try simp only [List.getElem_toArray, List.getElem_cons_succ, List.getElem_cons_zero]
    go_simp
    try with_reducible rfl
  try simp only [Act.put, List.setIfInBounds_toArray, List.set_cons_zero, List.set_cons_succ]
  refine held_take 6 (some 34) ?_ rfl rfl (by kernel_rfl) (by kernel_rfl) (by kernel_rfl) (fun _ _ _ h => h) (by assumption) (by rfl) ?_ ?_
  rotate_left
  · intro w hSw
    try dsimp only at hSw
    try simp only [List.getElem_toArray, List.getElem_cons_succ, List.getElem_cons_zero]
    go_simp
    try with_reducible rfl
  try simp only [Act.put, List.setIfInBounds_toArray, List.set_cons_zero, List.set_cons_succ]
  refine held_take 7 (some 35) ?_ rfl rfl (by kernel_rfl) (by kernel_rfl) (by kernel_rfl) (fun _ _ _ h => h) (by assumption) (by rfl) ?_ ?_
  rotate_left
  · intro w hSw
    try dsimp only at hSw
    try simp only [List.getElem_toArray, List.getElem_cons_succ, List.getElem_cons_zero]
    go_simp
    try with_reducible rfl
  try simp only [Act.put, List.setIfInBounds_toArray, List.set_cons_zero, List.set_cons_succ]
  refine held_take 8 (some 36) ?_ rfl rfl (by kernel_rfl) (by kernel_rfl) (by kernel_rfl) (fun _ _ _ h => h) (by assumption) (by rfl) ?_ ?_
  rotate_left
  · intro w hSw
    try dsimp only at hSw
    try simp only [List.getElem_toArray, List.getElem_cons_succ, List.getElem_cons_zero]
    go_simp
    try with_reducible rfl
  try simp only [Act.put, List.setIfInBounds_toArray, List.set_cons_zero, List.set_cons_succ]
  refine held_skip 9 (some 37) rfl rfl (by kernel_rfl) (by kernel_rfl) (by kernel_rfl) (fun _ _ _ h => h) (by assumption) (by rfl) ?_
  try simp only [Act.put, List.setIfInBounds_toArray, List.set_cons_zero, List.set_cons_succ]
  refine held_skip 10 (some 38) rfl rfl (by kernel_rfl) (by kernel_rfl) (by kernel_rfl) (fun _ _ _ h => h) (by assumption) (by rfl) ?_
  try simp only [Act.put, List.setIfInBounds_toArray, List.set_cons_zero, List.set_cons_succ]
  refine held_take 11 (some 39) ?_ rfl rfl (by kernel_rfl) (by kernel_rfl) (by kernel_rfl) (fun _ _ _ h => h) (by assumption) (by rfl) ?_ ?_
  rotate_left
  · intro w hSw
    try dsimp only at hSw
    try simp only [List.getElem_toArray, List.getElem_cons_succ, List.getElem_cons_zero]
    go_simp
    try with_reducible rfl
  try simp only [Act.put, List.setIfInBounds_toArray, List.set_cons_zero, List.set_cons_succ]
  refine held_take 12 (some 40) ?_ rfl rfl (by kernel_rfl) (by kernel_rfl) (by kernel_rfl) (fun _ _ _ h => h) (by assumption) (by rfl) ?_ ?_
  rotate_left
  · intro w hSw
    try dsimp only at hSw
    try simp only [List.getElem_toArray, List.getElem_cons_succ, List.getElem_cons_zero]
    go_simp
    try with_reducible rfl
  try simp only [Act.put, List.setIfInBounds_toArray, List.set_cons_zero, List.set_cons_succ]
  refine held_take 13 (some 41) ?_ rfl rfl (by kernel_rfl) (by kernel_rfl) (by kernel_rfl) (fun _ _ _ h => h) (by assumption) (by rfl) ?_ ?_
  rotate_left
  · intro w hSw
    try dsimp only at hSw
    try simp only [List.getElem_toArray, List.getElem_cons_succ, List.getElem_cons_zero]
    go_simp
    try with_reducible rfl
  try simp only [Act.put, List.setIfInBounds_toArray, List.set_cons_zero, List.set_cons_succ]
  refine held_take 14 (some 42) ?_ rfl rfl (by kernel_rfl) (by kernel_rfl) (by kernel_rfl) (fun _ _ _ h => h) (by assumption) (by rfl) ?_ ?_
  rotate_left
  · intro w hSw
    try dsimp only at hSw
    try simp only [List.getElem_toArray, List.getElem_cons_succ, List.getElem_cons_zero]
    go_simp
    try with_reducible rfl
  try simp only [Act.put, List.setIfInBounds_toArray, List.set_cons_zero, List.set_cons_succ]
  refine held_take 15 (some 43) ?_ rfl rfl (by kernel_rfl) (by kernel_rfl) (by kernel_rfl) (fun _ _ _ h => h) (by assumption) (by rfl) ?_ ?_
  rotate_left
  · intro w hSw
    try dsimp only at hSw
    try simp only [List.getElem_toArray, List.getElem_cons_succ, List.getElem_cons_zero]
    go_simp
    try with_reducible rfl
  try simp only [Act.put, List.setIfInBounds_toArray, List.set_cons_zero, List.set_cons_succ]
  refine held_take 16 (some 44) ?_ rfl rfl (by kernel_rfl) (by kernel_rfl) (by kernel_rfl) (fun _ _ _ h => h) (by assumption) (by rfl) ?_ ?_
  rotate_left
  · intro w hSw
    try dsimp only at hSw
    try simp only [List.getElem_toArray, List.getElem_cons_succ, List.getElem_cons_zero]
    go_simp
    try with_reducible rfl
  try simp only [Act.put, List.setIfInBounds_toArray, List.set_cons_zero, List.set_cons_succ]
  refine held_take 17 (some 45) ?_ rfl rfl (by kernel_rfl) (by kernel_rfl) (by kernel_rfl) (fun _ _ _ h => h) (by assumption) (by rfl) ?_ ?_
  rotate_left
  · intro w hSw
    try dsimp only at hSw
    try simp only [List.getElem_toArray, List.getElem_cons_succ, List.getElem_cons_zero]
    go_simp
    try with_reducible rfl
  try simp only [Act.put, List.setIfInBounds_toArray, List.set_cons_zero, List.set_cons_succ]
  refine held_take 19 (some 47) ?_ rfl rfl (by kernel_rfl) (by kernel_rfl) (by kernel_rfl) (fun _ _ _ h => h) (by assumption) (by rfl) ?_ ?_
  rotate_left
  · intro w hSw
    try dsimp only at hSw
    try simp only [List.getElem_toArray, List.getElem_cons_succ, List.getElem_cons_zero]
    go_simp
    try with_reducible rfl
  try simp only [Act.put, List.setIfInBounds_toArray, List.set_cons_zero, List.set_cons_succ]
  refine wpAnyH_ready (rs := [18]) (by kernel_rfl) (by simp) ?_
  refine AllReadyH.cons rfl (fun K hK => ?_) AllReadyH.nil
  try simp only [List.getElem_toArray, List.getElem_cons_succ, List.getElem_cons_zero]
  go_simp
  (go_at_call 49; refine (OF.out _ (tail_k1 hHeld)).mono ?_; rintro e2' w2' ⟨rfl, hbb⟩)
  refine hK.out _ _ (keep_k1 (by assumption) hbb) (fun hHeld => ?_)
  clear hK K
  try simp only [Act.put, List.setIfInBounds_toArray, List.set_cons_zero, List.set_cons_succ]
  refine held_take 20 (some 48) ?_ rfl rfl (by kernel_rfl) (by kernel_rfl) (by kernel_rfl) (fun _ _ _ h => h) (by assumption) (by rfl) ?_ ?_
  rotate_left
  · intro w hSw
    try dsimp only at hSw
    try simp only [List.getElem_toArray, List.getElem_cons_succ, List.getElem_cons_zero]
    go_simp
    try with_reducible rfl
  try simp only [Act.put, List.setIfInBounds_toArray, List.set_cons_zero, List.set_cons_succ]
  refine held_take 21 (some 49) ?_ rfl rfl (by kernel_rfl) (by kernel_rfl) (by kernel_rfl) (fun _ _ _ h => h) (by assumption) (by rfl) ?_ ?_
  rotate_left
  · intro w hSw
    try dsimp only at hSw
    try simp only [List.getElem_toArray, List.getElem_cons_succ, List.getElem_cons_zero]
    go_simp
    try with_reducible rfl
  try simp only [Act.put, List.setIfInBounds_toArray, List.set_cons_zero, List.set_cons_succ]
  refine held_take 22 (some 50) ?_ rfl rfl (by kernel_rfl) (by kernel_rfl) (by kernel_rfl) (fun _ _ _ h => h) (by assumption) (by rfl) ?_ ?_
  rotate_left
  · intro w hSw
    try dsimp only at hSw
    try simp only [List.getElem_toArray, List.getElem_cons_succ, List.getElem_cons_zero]
    go_simp
    try with_reducible rfl
  try simp only [Act.put, List.setIfInBounds_toArray, List.set_cons_zero, List.set_cons_succ]
  refine wpAnyH_done (by kernel_rfl) ?_ _
  have S4 := hHeld
  clear c0_0 c0_1 c0_2 l0 hB S3
  obtain ⟨c0_0, c0_1, c0_2, l0, hB⟩ := id S4
  go_wp2_with fail
  go_at_call 53
  refine (PS.out _ hB).mono ?_
  rintro e7 w7 ⟨rfl, h7⟩
  have B7 := hB.trans (h7.mono (by omega))
  go_wp2_with fail
  go_ret
  exact ⟨rfl, by rw [hn]; exact B7.alloc (by have := h7.size; omega) _⟩
set_option maxRecDepth 100000 in
set_option maxHeartbeats 16000000 in
theorem evrBack_11 (w : World) (hI : EvIn w) (a : Evr) (wa : a.wf) (s : ByteArray) (hs : s.size ≤ maxLen) (la : largeB a = false) (ls : s.size ≤ 1000) (hm : mayB a true = true) (he : ∃ e, evOf s.toList = some e) : Calls Tryd.prog 20 #[a.val, .string s] w fun e w' => e = .returned (.bool true) ∧ Below w.heap.size w w' := by
  have WK := Lib.hid (fun W (h : Below w.heap.size w W) => works_any W (hI.below h))
  have LA := Lib.hid (fun W => large_any a W wa)
  have S0 := new_k1 a w
  dsimp only at S0
  unfold maxLen at hs
  rw [la] at LA
  have ls2 : (s.size : Int) ≤ 1000 := by omega
  have MY := Lib.hid (fun W => may_val a _ W wa hm)
  have SW := Lib.hid (fun W (h : Below w.heap.size w W) => show_yes a W wa (hI.below h) hm)
  have OF := Lib.hid (fun W (h : Below w.heap.size w W) => of_any (bs (showL a)) W (by rw [bs_size]; have := showL_len hm; omega) (hI.below h))
  rw [bs_toList, of_some (s := showL a) (e := a) ⟨hm, rfl⟩] at OF
  generalize bs (showL a) = T at *
  obtain ⟨e, he⟩ := he
  have hx := evOf_iff.1 he
  have PS := Lib.hid (fun W (h : Below w.heap.size w W) => parse_yes s e W ls (hI.below h) he)
  have SX := Lib.hid (fun W (h : Below w.heap.size w W) => show_yes e W (evr_wf hx) (hI.below h) hx.1)
  rw [hx.2, bs_of] at SX
  have MX := Lib.hid (fun W => may_val e _ W (evr_wf hx) hx.1)
  clear he hx
  clear la ls hI wa hm
  unfold Evr.val at *
  go_enter Tryd.func20, Tryd.ntmps20
  go_wp2_with fail
  go_at_call 45
  generalize (w.alloc (.cells #[.int .i64 a.epoch, .string (bs a.ver), .string (bs a.rel)] 23)) = W at *
  generalize hn : w.heap.size = n at *
  obtain ⟨c0_0, c0_1, c0_2, l0, hB⟩ := id S0
  go_wp2_with fail
  go_at_call 45
  refine (WK.out _ hB).mono ?_
  rintro e1 w1 ⟨rfl, h⟩
  have S1 := keep_k1 S0 h
  clear S0 h
  obtain ⟨c0_0, c0_1, c0_2, l0, hB⟩ := id S1
  go_wp2_with fail
  go_at_call 51
  refine (LA.out _).mono ?_
  rintro e2 w2 ⟨rfl, h⟩
  have S2 := keep_k1 S1 h
  clear c0_0 c0_1 c0_2 l0 hB
  clear S1 h
  obtain ⟨c0_0, c0_1, c0_2, l0, hB⟩ := id S2
  go_wp2_with fail
  go_at_call 48
  refine (SW.out _ hB).mono ?_
  rintro e3 w3 ⟨rfl, h⟩
  have S3 := keep_k1 S2 h
  clear c0_0 c0_1 c0_2 l0 hB
  clear S2 h
  obtain ⟨c0_0, c0_1, c0_2, l0, hB⟩ := id S3
  go_wp2_with fail
  refine wp_region_held_drew (S := fun W => W.cell? ⟨n, 0, none⟩ = some (.int .i64 a.epoch) ∧ W.cell? ⟨n, 1, none⟩ = some (.string (bs a.ver)) ∧ W.cell? ⟨n, 2, none⟩ = some (.string (bs a.rel)) ∧ n < W.heap.size ∧ Below n w W) (by kernel_rfl) (by exact ⟨c0_0, c0_1, c0_2, l0, hB.drew⟩) (fun hHeld => ?_)
  refine held_take 0 (some 28) ?_ rfl rfl (by kernel_rfl) (by kernel_rfl) (by kernel_rfl) (fun _ _ _ h => h) (by assumption) (by rfl) ?_ ?_
  rotate_left
  · intro w hSw
    try dsimp only at hSw
    try simp only [List.getElem_toArray, List.getElem_cons_succ, List.getElem_cons_zero]
    go_simp
    try with_reducible rfl
  try simp only [Act.put, List.setIfInBounds_toArray, List.set_cons_zero, List.set_cons_succ]
  refine held_take 1 (some 29) ?_ rfl rfl (by kernel_rfl) (by kernel_rfl) (by kernel_rfl) (fun _ _ _ h => h) (by assumption) (by rfl) ?_ ?_
  rotate_left
  · intro w hSw
    try dsimp only at hSw
    try simp only [List.getElem_toArray, List.getElem_cons_succ, List.getElem_cons_zero]
    go_simp
    try with_reducible rfl
  try simp only [Act.put, List.setIfInBounds_toArray, List.set_cons_zero, List.set_cons_succ]
  refine held_take 2 (some 30) ?_ rfl rfl (by kernel_rfl) (by kernel_rfl) (by kernel_rfl) (fun _ _ _ h => h) (by assumption) (by rfl) ?_ ?_
  rotate_left
  · intro w hSw
    try dsimp only at hSw
    try simp only [List.getElem_toArray, List.getElem_cons_succ, List.getElem_cons_zero]
    go_simp
    try with_reducible rfl
  try simp only [Act.put, List.setIfInBounds_toArray, List.set_cons_zero, List.set_cons_succ]
  refine wpAnyH_ready (rs := [3]) (by kernel_rfl) (by simp) ?_
  refine AllReadyH.cons rfl (fun K hK => ?_) AllReadyH.nil
  try simp only [List.getElem_toArray, List.getElem_cons_succ, List.getElem_cons_zero]
  go_simp
  (go_at_call 50; refine (MY.out _).mono ?_; rintro e' w' ⟨rfl, hbb⟩)
  refine hK.out _ _ (keep_k1 (by assumption) hbb) (fun hHeld => ?_)
  clear hK K
  try simp only [Act.put, List.setIfInBounds_toArray, List.set_cons_zero, List.set_cons_succ]
  refine held_take 4 (some 32) ?_ rfl rfl (by kernel_rfl) (by kernel_rfl) (by kernel_rfl) (fun _ _ _ h => h) (by assumption) (by rfl) ?_ ?_
  rotate_left
  · intro w hSw
    try dsimp only at hSw
    try simp only [List.getElem_toArray, List.getElem_cons_succ, List.getElem_cons_zero]
    go_simp
    try with_reducible rfl
  try simp only [Act.put, List.setIfInBounds_toArray, List.set_cons_zero, List.set_cons_succ]
  refine held_take 5 (some 33) ?_ rfl rfl (by kernel_rfl) (by kernel_rfl) (by kernel_rfl) (fun _ _ _ h => h) (by assumption) (by rfl) ?_ ?_
  rotate_left
  · intro w hSw
    try dsimp only at hSw
    try simp only [List.getElem_toArray, List.getElem_cons_succ, List.getElem_cons_zero]
    go_simp
    try with_reducible rfl
  try simp only [Act.put, List.setIfInBounds_toArray, List.set_cons_zero, List.set_cons_succ]
  refine held_take 6 (some 34) ?_ rfl rfl (by kernel_rfl) (by kernel_rfl) (by kernel_rfl) (fun _ _ _ h => h) (by assumption) (by rfl) ?_ ?_
  rotate_left
  · intro w hSw
    try dsimp only at hSw
    try simp only [List.getElem_toArray, List.getElem_cons_succ, List.getElem_cons_zero]
    go_simp
    try with_reducible rfl
  try simp only [Act.put, List.setIfInBounds_toArray, List.set_cons_zero, List.set_cons_succ]
  refine held_take 7 (some 35) ?_ rfl rfl (by kernel_rfl) (by kernel_rfl) (by kernel_rfl) (fun _ _ _ h => h) (by assumption) (by rfl) ?_ ?_
  rotate_left
  · intro w hSw
    try dsimp only at hSw
    try simp only [List.getElem_toArray, List.getElem_cons_succ, List.getElem_cons_zero]
    go_simp
    try with_reducible rfl
  try simp only [Act.put, List.setIfInBounds_toArray, List.set_cons_zero, List.set_cons_succ]
  refine held_take 8 (some 36) ?_ rfl rfl (by kernel_rfl) (by kernel_rfl) (by kernel_rfl) (fun _ _ _ h => h) (by assumption) (by rfl) ?_ ?_
  rotate_left
  · intro w hSw
    try dsimp only at hSw
    try simp only [List.getElem_toArray, List.getElem_cons_succ, List.getElem_cons_zero]
    go_simp
    try with_reducible rfl
  try simp only [Act.put, List.setIfInBounds_toArray, List.set_cons_zero, List.set_cons_succ]
  refine held_skip 9 (some 37) rfl rfl (by kernel_rfl) (by kernel_rfl) (by kernel_rfl) (fun _ _ _ h => h) (by assumption) (by rfl) ?_
  try simp only [Act.put, List.setIfInBounds_toArray, List.set_cons_zero, List.set_cons_succ]
  refine held_skip 10 (some 38) rfl rfl (by kernel_rfl) (by kernel_rfl) (by kernel_rfl) (fun _ _ _ h => h) (by assumption) (by rfl) ?_
  try simp only [Act.put, List.setIfInBounds_toArray, List.set_cons_zero, List.set_cons_succ]
  refine held_take 11 (some 39) ?_ rfl rfl (by kernel_rfl) (by kernel_rfl) (by kernel_rfl) (fun _ _ _ h => h) (by assumption) (by rfl) ?_ ?_
  rotate_left
  · intro w hSw
    try dsimp only at hSw
    try simp only [List.getElem_toArray, List.getElem_cons_succ, List.getElem_cons_zero]
    go_simp
    try with_reducible rfl
  try simp only [Act.put, List.setIfInBounds_toArray, List.set_cons_zero, List.set_cons_succ]
  refine held_take 12 (some 40) ?_ rfl rfl (by kernel_rfl) (by kernel_rfl) (by kernel_rfl) (fun _ _ _ h => h) (by assumption) (by rfl) ?_ ?_
  rotate_left
  · intro w hSw
    try dsimp only at hSw
    try simp only [List.getElem_toArray, List.getElem_cons_succ, List.getElem_cons_zero]
    go_simp
    try with_reducible rfl
  try simp only [Act.put, List.setIfInBounds_toArray, List.set_cons_zero, List.set_cons_succ]
  refine held_take 13 (some 41) ?_ rfl rfl (by kernel_rfl) (by kernel_rfl) (by kernel_rfl) (fun _ _ _ h => h) (by assumption) (by rfl) ?_ ?_
  rotate_left
  · intro w hSw
    try dsimp only at hSw
    try simp only [List.getElem_toArray, List.getElem_cons_succ, List.getElem_cons_zero]
    go_simp
    try with_reducible rfl
  try simp only [Act.put, List.setIfInBounds_toArray, List.set_cons_zero, List.set_cons_succ]
  refine held_take 14 (some 42) ?_ rfl rfl (by kernel_rfl) (by kernel_rfl) (by kernel_rfl) (fun _ _ _ h => h) (by assumption) (by rfl) ?_ ?_
  rotate_left
  · intro w hSw
    try dsimp only at hSw
    try simp only [List.getElem_toArray, List.getElem_cons_succ, List.getElem_cons_zero]
    go_simp
    try with_reducible rfl
  try simp only [Act.put, List.setIfInBounds_toArray, List.set_cons_zero, List.set_cons_succ]
  refine held_take 15 (some 43) ?_ rfl rfl (by kernel_rfl) (by kernel_rfl) (by kernel_rfl) (fun _ _ _ h => h) (by assumption) (by rfl) ?_ ?_
  rotate_left
  · intro w hSw
    try dsimp only at hSw
    try simp only [List.getElem_toArray, List.getElem_cons_succ, List.getElem_cons_zero]
    go_simp
    try with_reducible rfl
  try simp only [Act.put, List.setIfInBounds_toArray, List.set_cons_zero, List.set_cons_succ]
  refine held_take 16 (some 44) ?_ rfl rfl (by kernel_rfl) (by kernel_rfl) (by kernel_rfl) (fun _ _ _ h => h) (by assumption) (by rfl) ?_ ?_
  rotate_left
  · intro w hSw
    try dsimp only at hSw
    try simp only [List.getElem_toArray, List.getElem_cons_succ, List.getElem_cons_zero]
    go_simp
    try with_reducible rfl
  try simp only [Act.put, List.setIfInBounds_toArray, List.set_cons_zero, List.set_cons_succ]
  refine held_take 17 (some 45) ?_ rfl rfl (by kernel_rfl) (by kernel_rfl) (by kernel_rfl) (fun _ _ _ h => h) (by assumption) (by rfl) ?_ ?_
  rotate_left
  · intro w hSw
    try dsimp only at hSw
    try simp only [List.getElem_toArray, List.getElem_cons_succ, List.getElem_cons_zero]
    go_simp
    try with_reducible rfl
  try simp only [Act.put, List.setIfInBounds_toArray, List.set_cons_zero, List.set_cons_succ]
  refine held_take 19 (some 47) ?_ rfl rfl (by kernel_rfl) (by kernel_rfl) (by kernel_rfl) (fun _ _ _ h => h) (by assumption) (by rfl) ?_ ?_
  rotate_left
  · intro w hSw
    try dsimp only at hSw
    try simp only [List.getElem_toArray, List.getElem_cons_succ, List.getElem_cons_zero]
    go_simp
    try with_reducible rfl
  try simp only [Act.put, List.setIfInBounds_toArray, List.set_cons_zero, List.set_cons_succ]
  refine wpAnyH_ready (rs := [18]) (by kernel_rfl) (by simp) ?_
  refine AllReadyH.cons rfl (fun K hK => ?_) AllReadyH.nil
  try simp only [List.getElem_toArray, List.getElem_cons_succ, List.getElem_cons_zero]
  go_simp
  (go_at_call 49; refine (OF.out _ (tail_k1 hHeld)).mono ?_; rintro e2' w2' ⟨rfl, hbb⟩)
  refine hK.out _ _ (keep_k1 (by assumption) hbb) (fun hHeld => ?_)
  clear hK K
  try simp only [Act.put, List.setIfInBounds_toArray, List.set_cons_zero, List.set_cons_succ]
  refine held_take 20 (some 48) ?_ rfl rfl (by kernel_rfl) (by kernel_rfl) (by kernel_rfl) (fun _ _ _ h => h) (by assumption) (by rfl) ?_ ?_
  rotate_left
  · intro w hSw
    try dsimp only at hSw
    try simp only [List.getElem_toArray, List.getElem_cons_succ, List.getElem_cons_zero]
    go_simp
    try with_reducible rfl
  try simp only [Act.put, List.setIfInBounds_toArray, List.set_cons_zero, List.set_cons_succ]
  refine held_take 21 (some 49) ?_ rfl rfl (by kernel_rfl) (by kernel_rfl) (by kernel_rfl) (fun _ _ _ h => h) (by assumption) (by rfl) ?_ ?_
  rotate_left
  · intro w hSw
    try dsimp only at hSw
    try simp only [List.getElem_toArray, List.getElem_cons_succ, List.getElem_cons_zero]
    go_simp
    try with_reducible rfl
  try simp only [Act.put, List.setIfInBounds_toArray, List.set_cons_zero, List.set_cons_succ]
  refine held_take 22 (some 50) ?_ rfl rfl (by kernel_rfl) (by kernel_rfl) (by kernel_rfl) (fun _ _ _ h => h) (by assumption) (by rfl) ?_ ?_
  rotate_left
  · intro w hSw
    try dsimp only at hSw
    try simp only [List.getElem_toArray, List.getElem_cons_succ, List.getElem_cons_zero]
    go_simp
    try with_reducible rfl
  try simp only [Act.put, List.setIfInBounds_toArray, List.set_cons_zero, List.set_cons_succ]
  refine wpAnyH_done (by kernel_rfl) ?_ _
  have S4 := hHeld
  clear c0_0 c0_1 c0_2 l0 hB S3
  obtain ⟨c0_0, c0_1, c0_2, l0, hB⟩ := id S4
  go_wp2_with fail
  go_at_call 53
  refine (PS.out _ hB).mono ?_
  rintro e7 w7 ⟨rfl, h7⟩
  have B7 := hB.trans (h7.mono (by omega))
  go_wp2_with fail
  have B8 : Below n w (w7.alloc (.cells #[.int .i64 e.epoch, .string (bs e.ver), .string (bs e.rel)] 23)) := B7.alloc (by have := h7.size; omega) _
  go_at_call 48
  refine (SX.out _ B8).mono ?_
  rintro e9 w9 ⟨rfl, h9⟩
  obtain ⟨hc9, hf9⟩ := bcell h9
  have hz9 : w7.heap.size < w9.heap.size := by have := h9.size; simp at this; omega
  go_wp2_with fail
  go_at_call 50
  refine (MX.out _).mono ?_
  rintro e10 w10 ⟨rfl, h10⟩
  go_wp2_with fail
  go_ret
  exact ⟨rfl, by rw [hn]; exact B8.trans ((h9.trans (h10.mono h9.size)).mono (by have := h7.size; simp; omega))⟩
theorem evrBack_row (w : World) (hI : EvIn w) (a : Evr) (wa : a.wf) (s : ByteArray) (hs : s.size ≤ maxLen) : Calls Tryd.prog 20 #[a.val, .string s] w fun e w' => e = .returned (.bool true) ∧ Below w.heap.size w w' := by
  cases la : largeB a with
  | true => exact evrBack_a w hI a wa s hs la
  | false =>
    by_cases ls : s.size ≤ 1000
    · cases hm : mayB a true with
      | true =>
        cases he : evOf s.toList with
        | none => exact evrBack_10 w hI a wa s hs la ls hm he
        | some e => exact evrBack_11 w hI a wa s hs la ls hm ⟨e, he⟩
      | false =>
        cases he : evOf s.toList with
        | none => exact evrBack_00 w hI a wa s hs la ls hm he
        | some e => exact evrBack_01 w hI a wa s hs la ls hm ⟨e, he⟩
    · exact evrBack_s w hI a wa s hs la (by omega)
end Go.Proofs.YtaibdghalhbpnaaDoor
