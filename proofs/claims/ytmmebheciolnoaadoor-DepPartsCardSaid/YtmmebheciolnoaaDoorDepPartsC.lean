/- DepParts, walked (C). -/
import Derived.Test.YtmmebheciolnoaaDoorDepPartsL
namespace Go.Proofs.YtmmebheciolnoaaDoor
open Go.RowKit Go.Shelf
set_option linter.unusedVariables false

set_option maxRecDepth 100000 in
set_option maxHeartbeats 16000000 in
theorem depParts_z1_n (w : World) (hI : DpIn w) (d : Dp) (wd : d.wf) (s : ByteArray) (hs : s.size ≤ maxLen) (la : longD d = false) (ls : s.size ≤ 1000) (h1 : nameB d.name = true) (h2 : opMay d.op = true) (h3 : d.op = 0) (h4 : d.evr.epoch ≠ 0) (k1 : nameB s.toList = false) : Calls Tryd.prog 7 #[d.val, .string s] w fun e w' => e = .returned (.bool true) ∧ Below w.heap.size w w' := by
  have LA := Lib.hid (fun W => long06_any d W wd)
  have AW := Lib.hid (fun W (h : Below w.heap.size w W) => awake06 W (hI.below h))
  have S0 := new_d1 d w
  dsimp only at S0
  have hn64 : (bs d.name).size ≤ maxLen := by rw [bs_size]; exact wd.1
  have NA := Lib.hid (fun W (h : Below w.heap.size w W) => dname_any (bs d.name) W hn64 (hI.below h))
  have FA := Lib.hid (fun W (h : Below w.heap.size w W) => dfile_any (bs d.name) W hn64 (hI.below h))
  have OA := Lib.hid (fun W (h : Below w.heap.size w W) => may_any d.op W (hI.2.1.below h))
  have EA := Lib.hid (fun W (h : Below w.heap.size w W) => evMay_any d.evr true W wd.2.2)
  have MA := Lib.hid (fun W (h : Below w.heap.size w W) => dmay_any d W wd (hI.below h))
  have NS := Lib.hid (fun W (h : Below w.heap.size w W) => dname_any s W hs (hI.below h))
  have FS := Lib.hid (fun W (h : Below w.heap.size w W) => dfile_any s W hs (hI.below h))
  have MX := Lib.hid (fun W (h : Below w.heap.size w W) => dmay_any ⟨s.toList, d.op, d.evr⟩ W ⟨by rw [size_toList]; exact hs, wd.2⟩ (hI.below h))
  rw [bs_toList] at NA FA
  unfold maxLen at hs
  have ls2 : (s.size : Int) ≤ 1000 := by omega
  rw [la] at LA
  have f1 : (d.op == 0) = true := by simpa using h3
  have f8 : (d.op != 0) = false := by simp [h3]
  have f2 : (d.evr.epoch == 0) = false := by simpa using h4
  have f3 : ¬ d.evr.epoch = 0 := h4
  have hD : dmayB d = false := by unfold dmayB; rw [h1, h2, if_pos h3]; unfold isZero; rw [f2]; rfl
  rw [hD] at MA
  rw [h1] at NA
  rw [h2] at OA
  rw [k1] at NS
  have k2 : fileB s.toList = false := by unfold fileB; rw [k1]; rfl
  rw [k2] at FS
  clear MX
  unfold Evr.val at EA
  clear hI wd la ls hn64 hD k1 k2 h1 h2 h3 h4
  clear FA
  clear EA
  unfold Dp.val at *
  go_enter Tryd.func7, Tryd.ntmps7
  go_wp2_with fail
  go_at_call 36
  generalize (w.alloc (.cells #[.string (bs d.name), .int .u8 d.op, .int .i64 d.evr.epoch, .string (bs d.evr.ver), .string (bs d.evr.rel)] 40)) = W at *
  generalize hn : w.heap.size = n at *
  obtain ⟨c0_0, c0_1, c0_2, c0_3, c0_4, l0, hB⟩ := id S0
  refine (LA.out _).mono ?_
  rintro e1 w1 ⟨rfl, h⟩
  have S1 := keep_d1 S0 h
  clear S0 h c0_0 c0_1 c0_2 c0_3 c0_4 l0 hB
  obtain ⟨c0_0, c0_1, c0_2, c0_3, c0_4, l0, hB⟩ := id S1
  go_wp2_with fail
  go_at_call 30
  refine (AW.out _ hB).mono ?_
  rintro e2 w2 ⟨rfl, h⟩
  have S2 := keep_d1 S1 h
  clear c0_0 c0_1 c0_2 c0_3 c0_4 l0 hB
  clear S1 h
  obtain ⟨c0_0, c0_1, c0_2, c0_3, c0_4, l0, hB⟩ := id S2
  go_wp2_with fail
  go_at_call 37
  refine (NA.out _ hB).mono ?_
  rintro e3 w3 ⟨rfl, h⟩
  have S3 := keep_d1 S2 h
  clear c0_0 c0_1 c0_2 c0_3 c0_4 l0 hB
  clear S2 h
  obtain ⟨c0_0, c0_1, c0_2, c0_3, c0_4, l0, hB⟩ := id S3
  go_wp2_with fail
  go_at_call 26
  refine (OA.out _ hB).mono ?_
  rintro e4 w4 ⟨rfl, h⟩
  have S4 := keep_d1 S3 h
  clear c0_0 c0_1 c0_2 c0_3 c0_4 l0 hB
  clear S3 h
  obtain ⟨c0_0, c0_1, c0_2, c0_3, c0_4, l0, hB⟩ := id S4
  have SG := grow_d6 s S4
  dsimp only at SG
  go_wp2_with fail
  go_at_call 40
  generalize hV : w4.alloc (.cells #[.string s, .int .u8 d.op, .int .i64 d.evr.epoch, .string (bs d.evr.ver), .string (bs d.evr.rel)] 40) = V at *
  generalize w4.heap.size = m at *
  clear S4 hV c0_0 c0_1 c0_2 c0_3 c0_4 l0 hB
  obtain ⟨c0_0, c0_1, c0_2, c0_3, c0_4, c1_0, c1_1, c1_2, c1_3, c1_4, l0, l1, hB⟩ := id SG
  refine (MA.out _ hB).mono ?_
  rintro e5 w5 ⟨rfl, h⟩
  have S5 := keep_d6 SG h
  clear SG h MA c0_0 c0_1 c0_2 c0_3 c0_4 c1_0 c1_1 c1_2 c1_3 c1_4 l0 l1 hB
  obtain ⟨c0_0, c0_1, c0_2, c0_3, c0_4, c1_0, c1_1, c1_2, c1_3, c1_4, l0, l1, hB⟩ := id S5
  go_wp2_with fail
  go_at_call 39
  refine (FS.out _ hB).mono ?_
  rintro e6 w6 ⟨rfl, h⟩
  have S6 := keep_d6 S5 h
  clear c0_0 c0_1 c0_2 c0_3 c0_4 c1_0 c1_1 c1_2 c1_3 c1_4 l0 l1 hB
  clear S5 h
  obtain ⟨c0_0, c0_1, c0_2, c0_3, c0_4, c1_0, c1_1, c1_2, c1_3, c1_4, l0, l1, hB⟩ := id S6
  go_wp2_with fail
  go_at_call 37
  refine (NS.out _ hB).mono ?_
  rintro e7 w7 ⟨rfl, h⟩
  have S7 := keep_d6 S6 h
  clear c0_0 c0_1 c0_2 c0_3 c0_4 c1_0 c1_1 c1_2 c1_3 c1_4 l0 l1 hB
  clear S6 h
  obtain ⟨c0_0, c0_1, c0_2, c0_3, c0_4, c1_0, c1_1, c1_2, c1_3, c1_4, l0, l1, hB⟩ := id S7
  go_wp2_with fail
  go_ret
  exact ⟨rfl, by rw [hn]; exact hB⟩
set_option maxRecDepth 100000 in
set_option maxHeartbeats 16000000 in
theorem depParts_z1_f (w : World) (hI : DpIn w) (d : Dp) (wd : d.wf) (s : ByteArray) (hs : s.size ≤ maxLen) (la : longD d = false) (ls : s.size ≤ 1000) (h1 : nameB d.name = true) (h2 : opMay d.op = true) (h3 : d.op = 0) (h4 : d.evr.epoch ≠ 0) (k1 : nameB s.toList = true) (k2 : fileB s.toList = true) : Calls Tryd.prog 7 #[d.val, .string s] w fun e w' => e = .returned (.bool true) ∧ Below w.heap.size w w' := by
  have LA := Lib.hid (fun W => long06_any d W wd)
  have AW := Lib.hid (fun W (h : Below w.heap.size w W) => awake06 W (hI.below h))
  have S0 := new_d1 d w
  dsimp only at S0
  have hn64 : (bs d.name).size ≤ maxLen := by rw [bs_size]; exact wd.1
  have NA := Lib.hid (fun W (h : Below w.heap.size w W) => dname_any (bs d.name) W hn64 (hI.below h))
  have FA := Lib.hid (fun W (h : Below w.heap.size w W) => dfile_any (bs d.name) W hn64 (hI.below h))
  have OA := Lib.hid (fun W (h : Below w.heap.size w W) => may_any d.op W (hI.2.1.below h))
  have EA := Lib.hid (fun W (h : Below w.heap.size w W) => evMay_any d.evr true W wd.2.2)
  have MA := Lib.hid (fun W (h : Below w.heap.size w W) => dmay_any d W wd (hI.below h))
  have NS := Lib.hid (fun W (h : Below w.heap.size w W) => dname_any s W hs (hI.below h))
  have FS := Lib.hid (fun W (h : Below w.heap.size w W) => dfile_any s W hs (hI.below h))
  have MX := Lib.hid (fun W (h : Below w.heap.size w W) => dmay_any ⟨s.toList, d.op, d.evr⟩ W ⟨by rw [size_toList]; exact hs, wd.2⟩ (hI.below h))
  rw [bs_toList] at NA FA
  unfold maxLen at hs
  have ls2 : (s.size : Int) ≤ 1000 := by omega
  rw [la] at LA
  have f1 : (d.op == 0) = true := by simpa using h3
  have f8 : (d.op != 0) = false := by simp [h3]
  have f2 : (d.evr.epoch == 0) = false := by simpa using h4
  have f3 : ¬ d.evr.epoch = 0 := h4
  have hD : dmayB d = false := by unfold dmayB; rw [h1, h2, if_pos h3]; unfold isZero; rw [f2]; rfl
  rw [hD] at MA
  rw [h1] at NA
  rw [h2] at OA
  rw [k1] at NS
  rw [k2] at FS
  clear MX
  have j0 : 0 < s.size := by have := (name_iff.1 k1).1; rw [size_toList] at this; exact this
  have j1 : (0 : Int) < (s.size : Int) := by omega
  have j2 : ((s[0].toNat : Int) == 47) = true := by rw [← head_at j0]; have hq := k2; unfold fileB at hq; rw [k1, Bool.true_and] at hq; exact hq
  unfold Evr.val at EA
  clear hI wd la ls hn64 hD k1 k2 h1 h2 h3 h4
  clear FA
  clear EA
  unfold Dp.val at *
  go_enter Tryd.func7, Tryd.ntmps7
  go_wp2_with fail
  go_at_call 36
  generalize (w.alloc (.cells #[.string (bs d.name), .int .u8 d.op, .int .i64 d.evr.epoch, .string (bs d.evr.ver), .string (bs d.evr.rel)] 40)) = W at *
  generalize hn : w.heap.size = n at *
  obtain ⟨c0_0, c0_1, c0_2, c0_3, c0_4, l0, hB⟩ := id S0
  refine (LA.out _).mono ?_
  rintro e1 w1 ⟨rfl, h⟩
  have S1 := keep_d1 S0 h
  clear S0 h c0_0 c0_1 c0_2 c0_3 c0_4 l0 hB
  obtain ⟨c0_0, c0_1, c0_2, c0_3, c0_4, l0, hB⟩ := id S1
  go_wp2_with fail
  go_at_call 30
  refine (AW.out _ hB).mono ?_
  rintro e2 w2 ⟨rfl, h⟩
  have S2 := keep_d1 S1 h
  clear c0_0 c0_1 c0_2 c0_3 c0_4 l0 hB
  clear S1 h
  obtain ⟨c0_0, c0_1, c0_2, c0_3, c0_4, l0, hB⟩ := id S2
  go_wp2_with fail
  go_at_call 37
  refine (NA.out _ hB).mono ?_
  rintro e3 w3 ⟨rfl, h⟩
  have S3 := keep_d1 S2 h
  clear c0_0 c0_1 c0_2 c0_3 c0_4 l0 hB
  clear S2 h
  obtain ⟨c0_0, c0_1, c0_2, c0_3, c0_4, l0, hB⟩ := id S3
  go_wp2_with fail
  go_at_call 26
  refine (OA.out _ hB).mono ?_
  rintro e4 w4 ⟨rfl, h⟩
  have S4 := keep_d1 S3 h
  clear c0_0 c0_1 c0_2 c0_3 c0_4 l0 hB
  clear S3 h
  obtain ⟨c0_0, c0_1, c0_2, c0_3, c0_4, l0, hB⟩ := id S4
  have SG := grow_d6 s S4
  dsimp only at SG
  go_wp2_with fail
  go_at_call 40
  generalize hV : w4.alloc (.cells #[.string s, .int .u8 d.op, .int .i64 d.evr.epoch, .string (bs d.evr.ver), .string (bs d.evr.rel)] 40) = V at *
  generalize w4.heap.size = m at *
  clear S4 hV c0_0 c0_1 c0_2 c0_3 c0_4 l0 hB
  obtain ⟨c0_0, c0_1, c0_2, c0_3, c0_4, c1_0, c1_1, c1_2, c1_3, c1_4, l0, l1, hB⟩ := id SG
  refine (MA.out _ hB).mono ?_
  rintro e5 w5 ⟨rfl, h⟩
  have S5 := keep_d6 SG h
  clear SG h MA c0_0 c0_1 c0_2 c0_3 c0_4 c1_0 c1_1 c1_2 c1_3 c1_4 l0 l1 hB
  obtain ⟨c0_0, c0_1, c0_2, c0_3, c0_4, c1_0, c1_1, c1_2, c1_3, c1_4, l0, l1, hB⟩ := id S5
  go_wp2_with fail
  go_at_call 39
  refine (FS.out _ hB).mono ?_
  rintro e6 w6 ⟨rfl, h⟩
  have S6 := keep_d6 S5 h
  clear c0_0 c0_1 c0_2 c0_3 c0_4 c1_0 c1_1 c1_2 c1_3 c1_4 l0 l1 hB
  clear S5 h
  obtain ⟨c0_0, c0_1, c0_2, c0_3, c0_4, c1_0, c1_1, c1_2, c1_3, c1_4, l0, l1, hB⟩ := id S6
  go_wp2_with fail
  go_at_call 37
  refine (NS.out _ hB).mono ?_
  rintro e7 w7 ⟨rfl, h⟩
  have S7 := keep_d6 S6 h
  clear c0_0 c0_1 c0_2 c0_3 c0_4 c1_0 c1_1 c1_2 c1_3 c1_4 l0 l1 hB
  clear S6 h
  obtain ⟨c0_0, c0_1, c0_2, c0_3, c0_4, c1_0, c1_1, c1_2, c1_3, c1_4, l0, l1, hB⟩ := id S7
  go_wp2_with fail
  go_ret
  exact ⟨rfl, by rw [hn]; exact hB⟩
set_option maxRecDepth 100000 in
set_option maxHeartbeats 16000000 in
theorem depParts_z1_g (w : World) (hI : DpIn w) (d : Dp) (wd : d.wf) (s : ByteArray) (hs : s.size ≤ maxLen) (la : longD d = false) (ls : s.size ≤ 1000) (h1 : nameB d.name = true) (h2 : opMay d.op = true) (h3 : d.op = 0) (h4 : d.evr.epoch ≠ 0) (k1 : nameB s.toList = true) (k2 : fileB s.toList = false) : Calls Tryd.prog 7 #[d.val, .string s] w fun e w' => e = .returned (.bool true) ∧ Below w.heap.size w w' := by
  have LA := Lib.hid (fun W => long06_any d W wd)
  have AW := Lib.hid (fun W (h : Below w.heap.size w W) => awake06 W (hI.below h))
  have S0 := new_d1 d w
  dsimp only at S0
  have hn64 : (bs d.name).size ≤ maxLen := by rw [bs_size]; exact wd.1
  have NA := Lib.hid (fun W (h : Below w.heap.size w W) => dname_any (bs d.name) W hn64 (hI.below h))
  have FA := Lib.hid (fun W (h : Below w.heap.size w W) => dfile_any (bs d.name) W hn64 (hI.below h))
  have OA := Lib.hid (fun W (h : Below w.heap.size w W) => may_any d.op W (hI.2.1.below h))
  have EA := Lib.hid (fun W (h : Below w.heap.size w W) => evMay_any d.evr true W wd.2.2)
  have MA := Lib.hid (fun W (h : Below w.heap.size w W) => dmay_any d W wd (hI.below h))
  have NS := Lib.hid (fun W (h : Below w.heap.size w W) => dname_any s W hs (hI.below h))
  have FS := Lib.hid (fun W (h : Below w.heap.size w W) => dfile_any s W hs (hI.below h))
  have MX := Lib.hid (fun W (h : Below w.heap.size w W) => dmay_any ⟨s.toList, d.op, d.evr⟩ W ⟨by rw [size_toList]; exact hs, wd.2⟩ (hI.below h))
  rw [bs_toList] at NA FA
  unfold maxLen at hs
  have ls2 : (s.size : Int) ≤ 1000 := by omega
  rw [la] at LA
  have f1 : (d.op == 0) = true := by simpa using h3
  have f8 : (d.op != 0) = false := by simp [h3]
  have f2 : (d.evr.epoch == 0) = false := by simpa using h4
  have f3 : ¬ d.evr.epoch = 0 := h4
  have hD : dmayB d = false := by unfold dmayB; rw [h1, h2, if_pos h3]; unfold isZero; rw [f2]; rfl
  rw [hD] at MA
  rw [h1] at NA
  rw [h2] at OA
  rw [k1] at NS
  rw [k2] at FS
  clear MX
  have j0 : 0 < s.size := by have := (name_iff.1 k1).1; rw [size_toList] at this; exact this
  have j1 : (0 : Int) < (s.size : Int) := by omega
  have j2 : ((s[0].toNat : Int) == 47) = false := by rw [← head_at j0]; have hq := k2; unfold fileB at hq; rw [k1, Bool.true_and] at hq; exact hq
  unfold Evr.val at EA
  clear hI wd la ls hn64 hD k1 k2 h1 h2 h3 h4
  clear FA
  clear EA
  unfold Dp.val at *
  go_enter Tryd.func7, Tryd.ntmps7
  go_wp2_with fail
  go_at_call 36
  generalize (w.alloc (.cells #[.string (bs d.name), .int .u8 d.op, .int .i64 d.evr.epoch, .string (bs d.evr.ver), .string (bs d.evr.rel)] 40)) = W at *
  generalize hn : w.heap.size = n at *
  obtain ⟨c0_0, c0_1, c0_2, c0_3, c0_4, l0, hB⟩ := id S0
  refine (LA.out _).mono ?_
  rintro e1 w1 ⟨rfl, h⟩
  have S1 := keep_d1 S0 h
  clear S0 h c0_0 c0_1 c0_2 c0_3 c0_4 l0 hB
  obtain ⟨c0_0, c0_1, c0_2, c0_3, c0_4, l0, hB⟩ := id S1
  go_wp2_with fail
  go_at_call 30
  refine (AW.out _ hB).mono ?_
  rintro e2 w2 ⟨rfl, h⟩
  have S2 := keep_d1 S1 h
  clear c0_0 c0_1 c0_2 c0_3 c0_4 l0 hB
  clear S1 h
  obtain ⟨c0_0, c0_1, c0_2, c0_3, c0_4, l0, hB⟩ := id S2
  go_wp2_with fail
  go_at_call 37
  refine (NA.out _ hB).mono ?_
  rintro e3 w3 ⟨rfl, h⟩
  have S3 := keep_d1 S2 h
  clear c0_0 c0_1 c0_2 c0_3 c0_4 l0 hB
  clear S2 h
  obtain ⟨c0_0, c0_1, c0_2, c0_3, c0_4, l0, hB⟩ := id S3
  go_wp2_with fail
  go_at_call 26
  refine (OA.out _ hB).mono ?_
  rintro e4 w4 ⟨rfl, h⟩
  have S4 := keep_d1 S3 h
  clear c0_0 c0_1 c0_2 c0_3 c0_4 l0 hB
  clear S3 h
  obtain ⟨c0_0, c0_1, c0_2, c0_3, c0_4, l0, hB⟩ := id S4
  have SG := grow_d6 s S4
  dsimp only at SG
  go_wp2_with fail
  go_at_call 40
  generalize hV : w4.alloc (.cells #[.string s, .int .u8 d.op, .int .i64 d.evr.epoch, .string (bs d.evr.ver), .string (bs d.evr.rel)] 40) = V at *
  generalize w4.heap.size = m at *
  clear S4 hV c0_0 c0_1 c0_2 c0_3 c0_4 l0 hB
  obtain ⟨c0_0, c0_1, c0_2, c0_3, c0_4, c1_0, c1_1, c1_2, c1_3, c1_4, l0, l1, hB⟩ := id SG
  refine (MA.out _ hB).mono ?_
  rintro e5 w5 ⟨rfl, h⟩
  have S5 := keep_d6 SG h
  clear SG h MA c0_0 c0_1 c0_2 c0_3 c0_4 c1_0 c1_1 c1_2 c1_3 c1_4 l0 l1 hB
  obtain ⟨c0_0, c0_1, c0_2, c0_3, c0_4, c1_0, c1_1, c1_2, c1_3, c1_4, l0, l1, hB⟩ := id S5
  go_wp2_with fail
  go_at_call 39
  refine (FS.out _ hB).mono ?_
  rintro e6 w6 ⟨rfl, h⟩
  have S6 := keep_d6 S5 h
  clear c0_0 c0_1 c0_2 c0_3 c0_4 c1_0 c1_1 c1_2 c1_3 c1_4 l0 l1 hB
  clear S5 h
  obtain ⟨c0_0, c0_1, c0_2, c0_3, c0_4, c1_0, c1_1, c1_2, c1_3, c1_4, l0, l1, hB⟩ := id S6
  go_wp2_with fail
  go_at_call 37
  refine (NS.out _ hB).mono ?_
  rintro e7 w7 ⟨rfl, h⟩
  have S7 := keep_d6 S6 h
  clear c0_0 c0_1 c0_2 c0_3 c0_4 c1_0 c1_1 c1_2 c1_3 c1_4 l0 l1 hB
  clear S6 h
  obtain ⟨c0_0, c0_1, c0_2, c0_3, c0_4, c1_0, c1_1, c1_2, c1_3, c1_4, l0, l1, hB⟩ := id S7
  go_wp2_with fail
  go_ret
  exact ⟨rfl, by rw [hn]; exact hB⟩
set_option maxRecDepth 100000 in
set_option maxHeartbeats 16000000 in
theorem depParts_e_n (w : World) (hI : DpIn w) (d : Dp) (wd : d.wf) (s : ByteArray) (hs : s.size ≤ maxLen) (la : longD d = false) (ls : s.size ≤ 1000) (h1 : nameB d.name = true) (h2 : opMay d.op = true) (h3 : d.op ≠ 0) (h4 : mayB d.evr true = false) (k1 : nameB s.toList = false) : Calls Tryd.prog 7 #[d.val, .string s] w fun e w' => e = .returned (.bool true) ∧ Below w.heap.size w w' := by
  have LA := Lib.hid (fun W => long06_any d W wd)
  have AW := Lib.hid (fun W (h : Below w.heap.size w W) => awake06 W (hI.below h))
  have S0 := new_d1 d w
  dsimp only at S0
  have hn64 : (bs d.name).size ≤ maxLen := by rw [bs_size]; exact wd.1
  have NA := Lib.hid (fun W (h : Below w.heap.size w W) => dname_any (bs d.name) W hn64 (hI.below h))
  have FA := Lib.hid (fun W (h : Below w.heap.size w W) => dfile_any (bs d.name) W hn64 (hI.below h))
  have OA := Lib.hid (fun W (h : Below w.heap.size w W) => may_any d.op W (hI.2.1.below h))
  have EA := Lib.hid (fun W (h : Below w.heap.size w W) => evMay_any d.evr true W wd.2.2)
  have MA := Lib.hid (fun W (h : Below w.heap.size w W) => dmay_any d W wd (hI.below h))
  have NS := Lib.hid (fun W (h : Below w.heap.size w W) => dname_any s W hs (hI.below h))
  have FS := Lib.hid (fun W (h : Below w.heap.size w W) => dfile_any s W hs (hI.below h))
  have MX := Lib.hid (fun W (h : Below w.heap.size w W) => dmay_any ⟨s.toList, d.op, d.evr⟩ W ⟨by rw [size_toList]; exact hs, wd.2⟩ (hI.below h))
  rw [bs_toList] at NA FA
  unfold maxLen at hs
  have ls2 : (s.size : Int) ≤ 1000 := by omega
  rw [la] at LA
  have f1 : (d.op == 0) = false := by simpa using h3
  have f2 : (d.op != 0) = true := by simpa using h3
  have hD : dmayB d = false := by unfold dmayB; rw [h1, h2, if_neg h3, h4]; cases fileB d.name <;> rfl
  rw [hD] at MA
  rw [h1] at NA
  rw [h2] at OA
  rw [h4] at EA
  rw [k1] at NS
  have k2 : fileB s.toList = false := by unfold fileB; rw [k1]; rfl
  rw [k2] at FS
  clear MX
  unfold Evr.val at EA
  clear hI wd la ls hn64 hD k1 k2 h1 h2 h3 h4
  clear FA
  unfold Dp.val at *
  go_enter Tryd.func7, Tryd.ntmps7
  go_wp2_with fail
  go_at_call 36
  generalize (w.alloc (.cells #[.string (bs d.name), .int .u8 d.op, .int .i64 d.evr.epoch, .string (bs d.evr.ver), .string (bs d.evr.rel)] 40)) = W at *
  generalize hn : w.heap.size = n at *
  obtain ⟨c0_0, c0_1, c0_2, c0_3, c0_4, l0, hB⟩ := id S0
  refine (LA.out _).mono ?_
  rintro e1 w1 ⟨rfl, h⟩
  have S1 := keep_d1 S0 h
  clear S0 h c0_0 c0_1 c0_2 c0_3 c0_4 l0 hB
  obtain ⟨c0_0, c0_1, c0_2, c0_3, c0_4, l0, hB⟩ := id S1
  go_wp2_with fail
  go_at_call 30
  refine (AW.out _ hB).mono ?_
  rintro e2 w2 ⟨rfl, h⟩
  have S2 := keep_d1 S1 h
  clear c0_0 c0_1 c0_2 c0_3 c0_4 l0 hB
  clear S1 h
  obtain ⟨c0_0, c0_1, c0_2, c0_3, c0_4, l0, hB⟩ := id S2
  go_wp2_with fail
  go_at_call 37
  refine (NA.out _ hB).mono ?_
  rintro e3 w3 ⟨rfl, h⟩
  have S3 := keep_d1 S2 h
  clear c0_0 c0_1 c0_2 c0_3 c0_4 l0 hB
  clear S2 h
  obtain ⟨c0_0, c0_1, c0_2, c0_3, c0_4, l0, hB⟩ := id S3
  go_wp2_with fail
  go_at_call 26
  refine (OA.out _ hB).mono ?_
  rintro e4 w4 ⟨rfl, h⟩
  have S4 := keep_d1 S3 h
  clear c0_0 c0_1 c0_2 c0_3 c0_4 l0 hB
  clear S3 h
  obtain ⟨c0_0, c0_1, c0_2, c0_3, c0_4, l0, hB⟩ := id S4
  go_wp2_with fail
  go_at_call 38
  refine (EA.out _ hB).mono ?_
  rintro e5 w5 ⟨rfl, h⟩
  have S5 := keep_d1 S4 h
  clear c0_0 c0_1 c0_2 c0_3 c0_4 l0 hB
  clear S4 h
  obtain ⟨c0_0, c0_1, c0_2, c0_3, c0_4, l0, hB⟩ := id S5
  have SG := grow_d6 s S5
  dsimp only at SG
  go_wp2_with fail
  go_at_call 40
  generalize hV : w5.alloc (.cells #[.string s, .int .u8 d.op, .int .i64 d.evr.epoch, .string (bs d.evr.ver), .string (bs d.evr.rel)] 40) = V at *
  generalize w5.heap.size = m at *
  clear S5 hV c0_0 c0_1 c0_2 c0_3 c0_4 l0 hB
  obtain ⟨c0_0, c0_1, c0_2, c0_3, c0_4, c1_0, c1_1, c1_2, c1_3, c1_4, l0, l1, hB⟩ := id SG
  refine (MA.out _ hB).mono ?_
  rintro e6 w6 ⟨rfl, h⟩
  have S6 := keep_d6 SG h
  clear SG h MA c0_0 c0_1 c0_2 c0_3 c0_4 c1_0 c1_1 c1_2 c1_3 c1_4 l0 l1 hB
  obtain ⟨c0_0, c0_1, c0_2, c0_3, c0_4, c1_0, c1_1, c1_2, c1_3, c1_4, l0, l1, hB⟩ := id S6
  go_wp2_with fail
  go_at_call 39
  refine (FS.out _ hB).mono ?_
  rintro e7 w7 ⟨rfl, h⟩
  have S7 := keep_d6 S6 h
  clear c0_0 c0_1 c0_2 c0_3 c0_4 c1_0 c1_1 c1_2 c1_3 c1_4 l0 l1 hB
  clear S6 h
  obtain ⟨c0_0, c0_1, c0_2, c0_3, c0_4, c1_0, c1_1, c1_2, c1_3, c1_4, l0, l1, hB⟩ := id S7
  go_wp2_with fail
  go_at_call 37
  refine (NS.out _ hB).mono ?_
  rintro e8 w8 ⟨rfl, h⟩
  have S8 := keep_d6 S7 h
  clear c0_0 c0_1 c0_2 c0_3 c0_4 c1_0 c1_1 c1_2 c1_3 c1_4 l0 l1 hB
  clear S7 h
  obtain ⟨c0_0, c0_1, c0_2, c0_3, c0_4, c1_0, c1_1, c1_2, c1_3, c1_4, l0, l1, hB⟩ := id S8
  go_wp2_with fail
  go_ret
  exact ⟨rfl, by rw [hn]; exact hB⟩
set_option maxRecDepth 100000 in
set_option maxHeartbeats 16000000 in
theorem depParts_e_f (w : World) (hI : DpIn w) (d : Dp) (wd : d.wf) (s : ByteArray) (hs : s.size ≤ maxLen) (la : longD d = false) (ls : s.size ≤ 1000) (h1 : nameB d.name = true) (h2 : opMay d.op = true) (h3 : d.op ≠ 0) (h4 : mayB d.evr true = false) (k1 : nameB s.toList = true) (k2 : fileB s.toList = true) : Calls Tryd.prog 7 #[d.val, .string s] w fun e w' => e = .returned (.bool true) ∧ Below w.heap.size w w' := by
  have LA := Lib.hid (fun W => long06_any d W wd)
  have AW := Lib.hid (fun W (h : Below w.heap.size w W) => awake06 W (hI.below h))
  have S0 := new_d1 d w
  dsimp only at S0
  have hn64 : (bs d.name).size ≤ maxLen := by rw [bs_size]; exact wd.1
  have NA := Lib.hid (fun W (h : Below w.heap.size w W) => dname_any (bs d.name) W hn64 (hI.below h))
  have FA := Lib.hid (fun W (h : Below w.heap.size w W) => dfile_any (bs d.name) W hn64 (hI.below h))
  have OA := Lib.hid (fun W (h : Below w.heap.size w W) => may_any d.op W (hI.2.1.below h))
  have EA := Lib.hid (fun W (h : Below w.heap.size w W) => evMay_any d.evr true W wd.2.2)
  have MA := Lib.hid (fun W (h : Below w.heap.size w W) => dmay_any d W wd (hI.below h))
  have NS := Lib.hid (fun W (h : Below w.heap.size w W) => dname_any s W hs (hI.below h))
  have FS := Lib.hid (fun W (h : Below w.heap.size w W) => dfile_any s W hs (hI.below h))
  have MX := Lib.hid (fun W (h : Below w.heap.size w W) => dmay_any ⟨s.toList, d.op, d.evr⟩ W ⟨by rw [size_toList]; exact hs, wd.2⟩ (hI.below h))
  rw [bs_toList] at NA FA
  unfold maxLen at hs
  have ls2 : (s.size : Int) ≤ 1000 := by omega
  rw [la] at LA
  have f1 : (d.op == 0) = false := by simpa using h3
  have f2 : (d.op != 0) = true := by simpa using h3
  have hD : dmayB d = false := by unfold dmayB; rw [h1, h2, if_neg h3, h4]; cases fileB d.name <;> rfl
  rw [hD] at MA
  rw [h1] at NA
  rw [h2] at OA
  rw [h4] at EA
  rw [k1] at NS
  rw [k2] at FS
  clear MX
  have j0 : 0 < s.size := by have := (name_iff.1 k1).1; rw [size_toList] at this; exact this
  have j1 : (0 : Int) < (s.size : Int) := by omega
  have j2 : ((s[0].toNat : Int) == 47) = true := by rw [← head_at j0]; have hq := k2; unfold fileB at hq; rw [k1, Bool.true_and] at hq; exact hq
  unfold Evr.val at EA
  clear hI wd la ls hn64 hD k1 k2 h1 h2 h3 h4
  clear FA
  unfold Dp.val at *
  go_enter Tryd.func7, Tryd.ntmps7
  go_wp2_with fail
  go_at_call 36
  generalize (w.alloc (.cells #[.string (bs d.name), .int .u8 d.op, .int .i64 d.evr.epoch, .string (bs d.evr.ver), .string (bs d.evr.rel)] 40)) = W at *
  generalize hn : w.heap.size = n at *
  obtain ⟨c0_0, c0_1, c0_2, c0_3, c0_4, l0, hB⟩ := id S0
  refine (LA.out _).mono ?_
  rintro e1 w1 ⟨rfl, h⟩
  have S1 := keep_d1 S0 h
  clear S0 h c0_0 c0_1 c0_2 c0_3 c0_4 l0 hB
  obtain ⟨c0_0, c0_1, c0_2, c0_3, c0_4, l0, hB⟩ := id S1
  go_wp2_with fail
  go_at_call 30
  refine (AW.out _ hB).mono ?_
  rintro e2 w2 ⟨rfl, h⟩
  have S2 := keep_d1 S1 h
  clear c0_0 c0_1 c0_2 c0_3 c0_4 l0 hB
  clear S1 h
  obtain ⟨c0_0, c0_1, c0_2, c0_3, c0_4, l0, hB⟩ := id S2
  go_wp2_with fail
  go_at_call 37
  refine (NA.out _ hB).mono ?_
  rintro e3 w3 ⟨rfl, h⟩
  have S3 := keep_d1 S2 h
  clear c0_0 c0_1 c0_2 c0_3 c0_4 l0 hB
  clear S2 h
  obtain ⟨c0_0, c0_1, c0_2, c0_3, c0_4, l0, hB⟩ := id S3
  go_wp2_with fail
  go_at_call 26
  refine (OA.out _ hB).mono ?_
  rintro e4 w4 ⟨rfl, h⟩
  have S4 := keep_d1 S3 h
  clear c0_0 c0_1 c0_2 c0_3 c0_4 l0 hB
  clear S3 h
  obtain ⟨c0_0, c0_1, c0_2, c0_3, c0_4, l0, hB⟩ := id S4
  go_wp2_with fail
  go_at_call 38
  refine (EA.out _ hB).mono ?_
  rintro e5 w5 ⟨rfl, h⟩
  have S5 := keep_d1 S4 h
  clear c0_0 c0_1 c0_2 c0_3 c0_4 l0 hB
  clear S4 h
  obtain ⟨c0_0, c0_1, c0_2, c0_3, c0_4, l0, hB⟩ := id S5
  have SG := grow_d6 s S5
  dsimp only at SG
  go_wp2_with fail
  go_at_call 40
  generalize hV : w5.alloc (.cells #[.string s, .int .u8 d.op, .int .i64 d.evr.epoch, .string (bs d.evr.ver), .string (bs d.evr.rel)] 40) = V at *
  generalize w5.heap.size = m at *
  clear S5 hV c0_0 c0_1 c0_2 c0_3 c0_4 l0 hB
  obtain ⟨c0_0, c0_1, c0_2, c0_3, c0_4, c1_0, c1_1, c1_2, c1_3, c1_4, l0, l1, hB⟩ := id SG
  refine (MA.out _ hB).mono ?_
  rintro e6 w6 ⟨rfl, h⟩
  have S6 := keep_d6 SG h
  clear SG h MA c0_0 c0_1 c0_2 c0_3 c0_4 c1_0 c1_1 c1_2 c1_3 c1_4 l0 l1 hB
  obtain ⟨c0_0, c0_1, c0_2, c0_3, c0_4, c1_0, c1_1, c1_2, c1_3, c1_4, l0, l1, hB⟩ := id S6
  go_wp2_with fail
  go_at_call 39
  refine (FS.out _ hB).mono ?_
  rintro e7 w7 ⟨rfl, h⟩
  have S7 := keep_d6 S6 h
  clear c0_0 c0_1 c0_2 c0_3 c0_4 c1_0 c1_1 c1_2 c1_3 c1_4 l0 l1 hB
  clear S6 h
  obtain ⟨c0_0, c0_1, c0_2, c0_3, c0_4, c1_0, c1_1, c1_2, c1_3, c1_4, l0, l1, hB⟩ := id S7
  go_wp2_with fail
  go_at_call 37
  refine (NS.out _ hB).mono ?_
  rintro e8 w8 ⟨rfl, h⟩
  have S8 := keep_d6 S7 h
  clear c0_0 c0_1 c0_2 c0_3 c0_4 c1_0 c1_1 c1_2 c1_3 c1_4 l0 l1 hB
  clear S7 h
  obtain ⟨c0_0, c0_1, c0_2, c0_3, c0_4, c1_0, c1_1, c1_2, c1_3, c1_4, l0, l1, hB⟩ := id S8
  go_wp2_with fail
  go_ret
  exact ⟨rfl, by rw [hn]; exact hB⟩
set_option maxRecDepth 100000 in
set_option maxHeartbeats 16000000 in
theorem depParts_e_g (w : World) (hI : DpIn w) (d : Dp) (wd : d.wf) (s : ByteArray) (hs : s.size ≤ maxLen) (la : longD d = false) (ls : s.size ≤ 1000) (h1 : nameB d.name = true) (h2 : opMay d.op = true) (h3 : d.op ≠ 0) (h4 : mayB d.evr true = false) (k1 : nameB s.toList = true) (k2 : fileB s.toList = false) : Calls Tryd.prog 7 #[d.val, .string s] w fun e w' => e = .returned (.bool true) ∧ Below w.heap.size w w' := by
  have LA := Lib.hid (fun W => long06_any d W wd)
  have AW := Lib.hid (fun W (h : Below w.heap.size w W) => awake06 W (hI.below h))
  have S0 := new_d1 d w
  dsimp only at S0
  have hn64 : (bs d.name).size ≤ maxLen := by rw [bs_size]; exact wd.1
  have NA := Lib.hid (fun W (h : Below w.heap.size w W) => dname_any (bs d.name) W hn64 (hI.below h))
  have FA := Lib.hid (fun W (h : Below w.heap.size w W) => dfile_any (bs d.name) W hn64 (hI.below h))
  have OA := Lib.hid (fun W (h : Below w.heap.size w W) => may_any d.op W (hI.2.1.below h))
  have EA := Lib.hid (fun W (h : Below w.heap.size w W) => evMay_any d.evr true W wd.2.2)
  have MA := Lib.hid (fun W (h : Below w.heap.size w W) => dmay_any d W wd (hI.below h))
  have NS := Lib.hid (fun W (h : Below w.heap.size w W) => dname_any s W hs (hI.below h))
  have FS := Lib.hid (fun W (h : Below w.heap.size w W) => dfile_any s W hs (hI.below h))
  have MX := Lib.hid (fun W (h : Below w.heap.size w W) => dmay_any ⟨s.toList, d.op, d.evr⟩ W ⟨by rw [size_toList]; exact hs, wd.2⟩ (hI.below h))
  rw [bs_toList] at NA FA
  unfold maxLen at hs
  have ls2 : (s.size : Int) ≤ 1000 := by omega
  rw [la] at LA
  have f1 : (d.op == 0) = false := by simpa using h3
  have f2 : (d.op != 0) = true := by simpa using h3
  have hD : dmayB d = false := by unfold dmayB; rw [h1, h2, if_neg h3, h4]; cases fileB d.name <;> rfl
  rw [hD] at MA
  rw [h1] at NA
  rw [h2] at OA
  rw [h4] at EA
  rw [k1] at NS
  rw [k2] at FS
  clear MX
  have j0 : 0 < s.size := by have := (name_iff.1 k1).1; rw [size_toList] at this; exact this
  have j1 : (0 : Int) < (s.size : Int) := by omega
  have j2 : ((s[0].toNat : Int) == 47) = false := by rw [← head_at j0]; have hq := k2; unfold fileB at hq; rw [k1, Bool.true_and] at hq; exact hq
  unfold Evr.val at EA
  clear hI wd la ls hn64 hD k1 k2 h1 h2 h3 h4
  clear FA
  unfold Dp.val at *
  go_enter Tryd.func7, Tryd.ntmps7
  go_wp2_with fail
  go_at_call 36
  generalize (w.alloc (.cells #[.string (bs d.name), .int .u8 d.op, .int .i64 d.evr.epoch, .string (bs d.evr.ver), .string (bs d.evr.rel)] 40)) = W at *
  generalize hn : w.heap.size = n at *
  obtain ⟨c0_0, c0_1, c0_2, c0_3, c0_4, l0, hB⟩ := id S0
  refine (LA.out _).mono ?_
  rintro e1 w1 ⟨rfl, h⟩
  have S1 := keep_d1 S0 h
  clear S0 h c0_0 c0_1 c0_2 c0_3 c0_4 l0 hB
  obtain ⟨c0_0, c0_1, c0_2, c0_3, c0_4, l0, hB⟩ := id S1
  go_wp2_with fail
  go_at_call 30
  refine (AW.out _ hB).mono ?_
  rintro e2 w2 ⟨rfl, h⟩
  have S2 := keep_d1 S1 h
  clear c0_0 c0_1 c0_2 c0_3 c0_4 l0 hB
  clear S1 h
  obtain ⟨c0_0, c0_1, c0_2, c0_3, c0_4, l0, hB⟩ := id S2
  go_wp2_with fail
  go_at_call 37
  refine (NA.out _ hB).mono ?_
  rintro e3 w3 ⟨rfl, h⟩
  have S3 := keep_d1 S2 h
  clear c0_0 c0_1 c0_2 c0_3 c0_4 l0 hB
  clear S2 h
  obtain ⟨c0_0, c0_1, c0_2, c0_3, c0_4, l0, hB⟩ := id S3
  go_wp2_with fail
  go_at_call 26
  refine (OA.out _ hB).mono ?_
  rintro e4 w4 ⟨rfl, h⟩
  have S4 := keep_d1 S3 h
  clear c0_0 c0_1 c0_2 c0_3 c0_4 l0 hB
  clear S3 h
  obtain ⟨c0_0, c0_1, c0_2, c0_3, c0_4, l0, hB⟩ := id S4
  go_wp2_with fail
  go_at_call 38
  refine (EA.out _ hB).mono ?_
  rintro e5 w5 ⟨rfl, h⟩
  have S5 := keep_d1 S4 h
  clear c0_0 c0_1 c0_2 c0_3 c0_4 l0 hB
  clear S4 h
  obtain ⟨c0_0, c0_1, c0_2, c0_3, c0_4, l0, hB⟩ := id S5
  have SG := grow_d6 s S5
  dsimp only at SG
  go_wp2_with fail
  go_at_call 40
  generalize hV : w5.alloc (.cells #[.string s, .int .u8 d.op, .int .i64 d.evr.epoch, .string (bs d.evr.ver), .string (bs d.evr.rel)] 40) = V at *
  generalize w5.heap.size = m at *
  clear S5 hV c0_0 c0_1 c0_2 c0_3 c0_4 l0 hB
  obtain ⟨c0_0, c0_1, c0_2, c0_3, c0_4, c1_0, c1_1, c1_2, c1_3, c1_4, l0, l1, hB⟩ := id SG
  refine (MA.out _ hB).mono ?_
  rintro e6 w6 ⟨rfl, h⟩
  have S6 := keep_d6 SG h
  clear SG h MA c0_0 c0_1 c0_2 c0_3 c0_4 c1_0 c1_1 c1_2 c1_3 c1_4 l0 l1 hB
  obtain ⟨c0_0, c0_1, c0_2, c0_3, c0_4, c1_0, c1_1, c1_2, c1_3, c1_4, l0, l1, hB⟩ := id S6
  go_wp2_with fail
  go_at_call 39
  refine (FS.out _ hB).mono ?_
  rintro e7 w7 ⟨rfl, h⟩
  have S7 := keep_d6 S6 h
  clear c0_0 c0_1 c0_2 c0_3 c0_4 c1_0 c1_1 c1_2 c1_3 c1_4 l0 l1 hB
  clear S6 h
  obtain ⟨c0_0, c0_1, c0_2, c0_3, c0_4, c1_0, c1_1, c1_2, c1_3, c1_4, l0, l1, hB⟩ := id S7
  go_wp2_with fail
  go_at_call 37
  refine (NS.out _ hB).mono ?_
  rintro e8 w8 ⟨rfl, h⟩
  have S8 := keep_d6 S7 h
  clear c0_0 c0_1 c0_2 c0_3 c0_4 c1_0 c1_1 c1_2 c1_3 c1_4 l0 l1 hB
  clear S7 h
  obtain ⟨c0_0, c0_1, c0_2, c0_3, c0_4, c1_0, c1_1, c1_2, c1_3, c1_4, l0, l1, hB⟩ := id S8
  go_wp2_with fail
  go_ret
  exact ⟨rfl, by rw [hn]; exact hB⟩
set_option maxRecDepth 100000 in
set_option maxHeartbeats 16000000 in
theorem depParts_y1_n (w : World) (hI : DpIn w) (d : Dp) (wd : d.wf) (s : ByteArray) (hs : s.size ≤ maxLen) (la : longD d = false) (ls : s.size ≤ 1000) (h1 : nameB d.name = true) (h2 : opMay d.op = true) (h3 : d.op ≠ 0) (h4 : mayB d.evr true = true) (h5 : fileB d.name = false) (k1 : nameB s.toList = false) : Calls Tryd.prog 7 #[d.val, .string s] w fun e w' => e = .returned (.bool true) ∧ Below w.heap.size w w' := by
  have LA := Lib.hid (fun W => long06_any d W wd)
  have AW := Lib.hid (fun W (h : Below w.heap.size w W) => awake06 W (hI.below h))
  have S0 := new_d1 d w
  dsimp only at S0
  have hn64 : (bs d.name).size ≤ maxLen := by rw [bs_size]; exact wd.1
  have NA := Lib.hid (fun W (h : Below w.heap.size w W) => dname_any (bs d.name) W hn64 (hI.below h))
  have FA := Lib.hid (fun W (h : Below w.heap.size w W) => dfile_any (bs d.name) W hn64 (hI.below h))
  have OA := Lib.hid (fun W (h : Below w.heap.size w W) => may_any d.op W (hI.2.1.below h))
  have EA := Lib.hid (fun W (h : Below w.heap.size w W) => evMay_any d.evr true W wd.2.2)
  have MA := Lib.hid (fun W (h : Below w.heap.size w W) => dmay_any d W wd (hI.below h))
  have NS := Lib.hid (fun W (h : Below w.heap.size w W) => dname_any s W hs (hI.below h))
  have FS := Lib.hid (fun W (h : Below w.heap.size w W) => dfile_any s W hs (hI.below h))
  have MX := Lib.hid (fun W (h : Below w.heap.size w W) => dmay_any ⟨s.toList, d.op, d.evr⟩ W ⟨by rw [size_toList]; exact hs, wd.2⟩ (hI.below h))
  rw [bs_toList] at NA FA
  unfold maxLen at hs
  have ls2 : (s.size : Int) ≤ 1000 := by omega
  rw [la] at LA
  have f1 : (d.op == 0) = false := by simpa using h3
  have f2 : (d.op != 0) = true := by simpa using h3
  have hD : dmayB d = true := by unfold dmayB; rw [h1, h2, if_neg h3, h4, h5]; rfl
  rw [hD] at MA
  rw [h1] at NA
  rw [h2] at OA
  rw [h4] at EA
  rw [h5] at FA
  rw [k1] at NS
  have k2 : fileB s.toList = false := by unfold fileB; rw [k1]; rfl
  rw [k2] at FS
  have hX := want_x (s := s.toList) hD
  rw [k1, k2, f1] at hX
  simp only [Bool.true_and, Bool.false_and, Bool.true_or, Bool.false_or, Bool.not_true, Bool.not_false] at hX
  rw [hX] at MX
  unfold Dp.val at MX
  dsimp only at MX
  rw [bs_of] at MX
  clear hX
  unfold Evr.val at EA
  clear hI wd la ls hn64 hD k1 k2 h1 h2 h3 h4 h5
  unfold Dp.val at *
  go_enter Tryd.func7, Tryd.ntmps7
  go_wp2_with fail
  go_at_call 36
  generalize (w.alloc (.cells #[.string (bs d.name), .int .u8 d.op, .int .i64 d.evr.epoch, .string (bs d.evr.ver), .string (bs d.evr.rel)] 40)) = W at *
  generalize hn : w.heap.size = n at *
  obtain ⟨c0_0, c0_1, c0_2, c0_3, c0_4, l0, hB⟩ := id S0
  refine (LA.out _).mono ?_
  rintro e1 w1 ⟨rfl, h⟩
  have S1 := keep_d1 S0 h
  clear S0 h c0_0 c0_1 c0_2 c0_3 c0_4 l0 hB
  obtain ⟨c0_0, c0_1, c0_2, c0_3, c0_4, l0, hB⟩ := id S1
  go_wp2_with fail
  go_at_call 30
  refine (AW.out _ hB).mono ?_
  rintro e2 w2 ⟨rfl, h⟩
  have S2 := keep_d1 S1 h
  clear c0_0 c0_1 c0_2 c0_3 c0_4 l0 hB
  clear S1 h
  obtain ⟨c0_0, c0_1, c0_2, c0_3, c0_4, l0, hB⟩ := id S2
  go_wp2_with fail
  go_at_call 37
  refine (NA.out _ hB).mono ?_
  rintro e3 w3 ⟨rfl, h⟩
  have S3 := keep_d1 S2 h
  clear c0_0 c0_1 c0_2 c0_3 c0_4 l0 hB
  clear S2 h
  obtain ⟨c0_0, c0_1, c0_2, c0_3, c0_4, l0, hB⟩ := id S3
  go_wp2_with fail
  go_at_call 26
  refine (OA.out _ hB).mono ?_
  rintro e4 w4 ⟨rfl, h⟩
  have S4 := keep_d1 S3 h
  clear c0_0 c0_1 c0_2 c0_3 c0_4 l0 hB
  clear S3 h
  obtain ⟨c0_0, c0_1, c0_2, c0_3, c0_4, l0, hB⟩ := id S4
  go_wp2_with fail
  go_at_call 38
  refine (EA.out _ hB).mono ?_
  rintro e5 w5 ⟨rfl, h⟩
  have S5 := keep_d1 S4 h
  clear c0_0 c0_1 c0_2 c0_3 c0_4 l0 hB
  clear S4 h
  obtain ⟨c0_0, c0_1, c0_2, c0_3, c0_4, l0, hB⟩ := id S5
  go_wp2_with fail
  go_at_call 39
  refine (FA.out _ hB).mono ?_
  rintro e6 w6 ⟨rfl, h⟩
  have S6 := keep_d1 S5 h
  clear c0_0 c0_1 c0_2 c0_3 c0_4 l0 hB
  clear S5 h
  obtain ⟨c0_0, c0_1, c0_2, c0_3, c0_4, l0, hB⟩ := id S6
  have SG := grow_d6 s S6
  dsimp only at SG
  go_wp2_with fail
  go_at_call 40
  generalize hV : w6.alloc (.cells #[.string s, .int .u8 d.op, .int .i64 d.evr.epoch, .string (bs d.evr.ver), .string (bs d.evr.rel)] 40) = V at *
  generalize w6.heap.size = m at *
  clear S6 hV c0_0 c0_1 c0_2 c0_3 c0_4 l0 hB
  obtain ⟨c0_0, c0_1, c0_2, c0_3, c0_4, c1_0, c1_1, c1_2, c1_3, c1_4, l0, l1, hB⟩ := id SG
  refine (MA.out _ hB).mono ?_
  rintro e7 w7 ⟨rfl, h⟩
  have S7 := keep_d6 SG h
  clear SG h MA c0_0 c0_1 c0_2 c0_3 c0_4 c1_0 c1_1 c1_2 c1_3 c1_4 l0 l1 hB
  obtain ⟨c0_0, c0_1, c0_2, c0_3, c0_4, c1_0, c1_1, c1_2, c1_3, c1_4, l0, l1, hB⟩ := id S7
  go_wp2_with fail
  go_at_call 40
  refine (MX.out _ hB).mono ?_
  rintro e8 w8 ⟨rfl, h⟩
  have S8 := keep_d6 S7 h
  clear c0_0 c0_1 c0_2 c0_3 c0_4 c1_0 c1_1 c1_2 c1_3 c1_4 l0 l1 hB
  clear S7 h
  obtain ⟨c0_0, c0_1, c0_2, c0_3, c0_4, c1_0, c1_1, c1_2, c1_3, c1_4, l0, l1, hB⟩ := id S8
  go_wp2_with fail
  go_at_call 37
  refine (NS.out _ hB).mono ?_
  rintro e9 w9 ⟨rfl, h⟩
  have S9 := keep_d6 S8 h
  clear c0_0 c0_1 c0_2 c0_3 c0_4 c1_0 c1_1 c1_2 c1_3 c1_4 l0 l1 hB
  clear S8 h
  obtain ⟨c0_0, c0_1, c0_2, c0_3, c0_4, c1_0, c1_1, c1_2, c1_3, c1_4, l0, l1, hB⟩ := id S9
  go_wp2_with fail
  go_at_call 39
  refine (FS.out _ hB).mono ?_
  rintro e10 w10 ⟨rfl, h⟩
  have S10 := keep_d6 S9 h
  clear c0_0 c0_1 c0_2 c0_3 c0_4 c1_0 c1_1 c1_2 c1_3 c1_4 l0 l1 hB
  clear S9 h
  obtain ⟨c0_0, c0_1, c0_2, c0_3, c0_4, c1_0, c1_1, c1_2, c1_3, c1_4, l0, l1, hB⟩ := id S10
  go_wp2_with fail
  go_at_call 37
  refine (NS.out _ hB).mono ?_
  rintro e11 w11 ⟨rfl, h⟩
  have S11 := keep_d6 S10 h
  clear c0_0 c0_1 c0_2 c0_3 c0_4 c1_0 c1_1 c1_2 c1_3 c1_4 l0 l1 hB
  clear S10 h
  obtain ⟨c0_0, c0_1, c0_2, c0_3, c0_4, c1_0, c1_1, c1_2, c1_3, c1_4, l0, l1, hB⟩ := id S11
  go_wp2_with fail
  go_ret
  exact ⟨rfl, by rw [hn]; exact hB⟩
set_option maxRecDepth 100000 in
set_option maxHeartbeats 16000000 in
theorem depParts_y1_f (w : World) (hI : DpIn w) (d : Dp) (wd : d.wf) (s : ByteArray) (hs : s.size ≤ maxLen) (la : longD d = false) (ls : s.size ≤ 1000) (h1 : nameB d.name = true) (h2 : opMay d.op = true) (h3 : d.op ≠ 0) (h4 : mayB d.evr true = true) (h5 : fileB d.name = false) (k1 : nameB s.toList = true) (k2 : fileB s.toList = true) : Calls Tryd.prog 7 #[d.val, .string s] w fun e w' => e = .returned (.bool true) ∧ Below w.heap.size w w' := by
  have LA := Lib.hid (fun W => long06_any d W wd)
  have AW := Lib.hid (fun W (h : Below w.heap.size w W) => awake06 W (hI.below h))
  have S0 := new_d1 d w
  dsimp only at S0
  have hn64 : (bs d.name).size ≤ maxLen := by rw [bs_size]; exact wd.1
  have NA := Lib.hid (fun W (h : Below w.heap.size w W) => dname_any (bs d.name) W hn64 (hI.below h))
  have FA := Lib.hid (fun W (h : Below w.heap.size w W) => dfile_any (bs d.name) W hn64 (hI.below h))
  have OA := Lib.hid (fun W (h : Below w.heap.size w W) => may_any d.op W (hI.2.1.below h))
  have EA := Lib.hid (fun W (h : Below w.heap.size w W) => evMay_any d.evr true W wd.2.2)
  have MA := Lib.hid (fun W (h : Below w.heap.size w W) => dmay_any d W wd (hI.below h))
  have NS := Lib.hid (fun W (h : Below w.heap.size w W) => dname_any s W hs (hI.below h))
  have FS := Lib.hid (fun W (h : Below w.heap.size w W) => dfile_any s W hs (hI.below h))
  have MX := Lib.hid (fun W (h : Below w.heap.size w W) => dmay_any ⟨s.toList, d.op, d.evr⟩ W ⟨by rw [size_toList]; exact hs, wd.2⟩ (hI.below h))
  rw [bs_toList] at NA FA
  unfold maxLen at hs
  have ls2 : (s.size : Int) ≤ 1000 := by omega
  rw [la] at LA
  have f1 : (d.op == 0) = false := by simpa using h3
  have f2 : (d.op != 0) = true := by simpa using h3
  have hD : dmayB d = true := by unfold dmayB; rw [h1, h2, if_neg h3, h4, h5]; rfl
  rw [hD] at MA
  rw [h1] at NA
  rw [h2] at OA
  rw [h4] at EA
  rw [h5] at FA
  rw [k1] at NS
  rw [k2] at FS
  have hX := want_x (s := s.toList) hD
  rw [k1, k2, f1] at hX
  simp only [Bool.true_and, Bool.false_and, Bool.true_or, Bool.false_or, Bool.not_true, Bool.not_false] at hX
  rw [hX] at MX
  unfold Dp.val at MX
  dsimp only at MX
  rw [bs_of] at MX
  clear hX
  have j0 : 0 < s.size := by have := (name_iff.1 k1).1; rw [size_toList] at this; exact this
  have j1 : (0 : Int) < (s.size : Int) := by omega
  have j2 : ((s[0].toNat : Int) == 47) = true := by rw [← head_at j0]; have hq := k2; unfold fileB at hq; rw [k1, Bool.true_and] at hq; exact hq
  unfold Evr.val at EA
  clear hI wd la ls hn64 hD k1 k2 h1 h2 h3 h4 h5
  unfold Dp.val at *
  go_enter Tryd.func7, Tryd.ntmps7
  go_wp2_with fail
  go_at_call 36
  generalize (w.alloc (.cells #[.string (bs d.name), .int .u8 d.op, .int .i64 d.evr.epoch, .string (bs d.evr.ver), .string (bs d.evr.rel)] 40)) = W at *
  generalize hn : w.heap.size = n at *
  obtain ⟨c0_0, c0_1, c0_2, c0_3, c0_4, l0, hB⟩ := id S0
  refine (LA.out _).mono ?_
  rintro e1 w1 ⟨rfl, h⟩
  have S1 := keep_d1 S0 h
  clear S0 h c0_0 c0_1 c0_2 c0_3 c0_4 l0 hB
  obtain ⟨c0_0, c0_1, c0_2, c0_3, c0_4, l0, hB⟩ := id S1
  go_wp2_with fail
  go_at_call 30
  refine (AW.out _ hB).mono ?_
  rintro e2 w2 ⟨rfl, h⟩
  have S2 := keep_d1 S1 h
  clear c0_0 c0_1 c0_2 c0_3 c0_4 l0 hB
  clear S1 h
  obtain ⟨c0_0, c0_1, c0_2, c0_3, c0_4, l0, hB⟩ := id S2
  go_wp2_with fail
  go_at_call 37
  refine (NA.out _ hB).mono ?_
  rintro e3 w3 ⟨rfl, h⟩
  have S3 := keep_d1 S2 h
  clear c0_0 c0_1 c0_2 c0_3 c0_4 l0 hB
  clear S2 h
  obtain ⟨c0_0, c0_1, c0_2, c0_3, c0_4, l0, hB⟩ := id S3
  go_wp2_with fail
  go_at_call 26
  refine (OA.out _ hB).mono ?_
  rintro e4 w4 ⟨rfl, h⟩
  have S4 := keep_d1 S3 h
  clear c0_0 c0_1 c0_2 c0_3 c0_4 l0 hB
  clear S3 h
  obtain ⟨c0_0, c0_1, c0_2, c0_3, c0_4, l0, hB⟩ := id S4
  go_wp2_with fail
  go_at_call 38
  refine (EA.out _ hB).mono ?_
  rintro e5 w5 ⟨rfl, h⟩
  have S5 := keep_d1 S4 h
  clear c0_0 c0_1 c0_2 c0_3 c0_4 l0 hB
  clear S4 h
  obtain ⟨c0_0, c0_1, c0_2, c0_3, c0_4, l0, hB⟩ := id S5
  go_wp2_with fail
  go_at_call 39
  refine (FA.out _ hB).mono ?_
  rintro e6 w6 ⟨rfl, h⟩
  have S6 := keep_d1 S5 h
  clear c0_0 c0_1 c0_2 c0_3 c0_4 l0 hB
  clear S5 h
  obtain ⟨c0_0, c0_1, c0_2, c0_3, c0_4, l0, hB⟩ := id S6
  have SG := grow_d6 s S6
  dsimp only at SG
  go_wp2_with fail
  go_at_call 40
  generalize hV : w6.alloc (.cells #[.string s, .int .u8 d.op, .int .i64 d.evr.epoch, .string (bs d.evr.ver), .string (bs d.evr.rel)] 40) = V at *
  generalize w6.heap.size = m at *
  clear S6 hV c0_0 c0_1 c0_2 c0_3 c0_4 l0 hB
  obtain ⟨c0_0, c0_1, c0_2, c0_3, c0_4, c1_0, c1_1, c1_2, c1_3, c1_4, l0, l1, hB⟩ := id SG
  refine (MA.out _ hB).mono ?_
  rintro e7 w7 ⟨rfl, h⟩
  have S7 := keep_d6 SG h
  clear SG h MA c0_0 c0_1 c0_2 c0_3 c0_4 c1_0 c1_1 c1_2 c1_3 c1_4 l0 l1 hB
  obtain ⟨c0_0, c0_1, c0_2, c0_3, c0_4, c1_0, c1_1, c1_2, c1_3, c1_4, l0, l1, hB⟩ := id S7
  go_wp2_with fail
  go_at_call 40
  refine (MX.out _ hB).mono ?_
  rintro e8 w8 ⟨rfl, h⟩
  have S8 := keep_d6 S7 h
  clear c0_0 c0_1 c0_2 c0_3 c0_4 c1_0 c1_1 c1_2 c1_3 c1_4 l0 l1 hB
  clear S7 h
  obtain ⟨c0_0, c0_1, c0_2, c0_3, c0_4, c1_0, c1_1, c1_2, c1_3, c1_4, l0, l1, hB⟩ := id S8
  go_wp2_with fail
  go_at_call 37
  refine (NS.out _ hB).mono ?_
  rintro e9 w9 ⟨rfl, h⟩
  have S9 := keep_d6 S8 h
  clear c0_0 c0_1 c0_2 c0_3 c0_4 c1_0 c1_1 c1_2 c1_3 c1_4 l0 l1 hB
  clear S8 h
  obtain ⟨c0_0, c0_1, c0_2, c0_3, c0_4, c1_0, c1_1, c1_2, c1_3, c1_4, l0, l1, hB⟩ := id S9
  go_wp2_with fail
  go_at_call 39
  refine (FS.out _ hB).mono ?_
  rintro e10 w10 ⟨rfl, h⟩
  have S10 := keep_d6 S9 h
  clear c0_0 c0_1 c0_2 c0_3 c0_4 c1_0 c1_1 c1_2 c1_3 c1_4 l0 l1 hB
  clear S9 h
  obtain ⟨c0_0, c0_1, c0_2, c0_3, c0_4, c1_0, c1_1, c1_2, c1_3, c1_4, l0, l1, hB⟩ := id S10
  go_wp2_with fail
  go_at_call 39
  refine (FS.out _ hB).mono ?_
  rintro e11 w11 ⟨rfl, h⟩
  have S11 := keep_d6 S10 h
  clear c0_0 c0_1 c0_2 c0_3 c0_4 c1_0 c1_1 c1_2 c1_3 c1_4 l0 l1 hB
  clear S10 h
  obtain ⟨c0_0, c0_1, c0_2, c0_3, c0_4, c1_0, c1_1, c1_2, c1_3, c1_4, l0, l1, hB⟩ := id S11
  go_wp2_with fail
  go_at_call 37
  refine (NS.out _ hB).mono ?_
  rintro e12 w12 ⟨rfl, h⟩
  have S12 := keep_d6 S11 h
  clear c0_0 c0_1 c0_2 c0_3 c0_4 c1_0 c1_1 c1_2 c1_3 c1_4 l0 l1 hB
  clear S11 h
  obtain ⟨c0_0, c0_1, c0_2, c0_3, c0_4, c1_0, c1_1, c1_2, c1_3, c1_4, l0, l1, hB⟩ := id S12
  go_wp2_with fail
  go_ret
  exact ⟨rfl, by rw [hn]; exact hB⟩
set_option maxRecDepth 100000 in
set_option maxHeartbeats 16000000 in
theorem depParts_y1_g (w : World) (hI : DpIn w) (d : Dp) (wd : d.wf) (s : ByteArray) (hs : s.size ≤ maxLen) (la : longD d = false) (ls : s.size ≤ 1000) (h1 : nameB d.name = true) (h2 : opMay d.op = true) (h3 : d.op ≠ 0) (h4 : mayB d.evr true = true) (h5 : fileB d.name = false) (k1 : nameB s.toList = true) (k2 : fileB s.toList = false) : Calls Tryd.prog 7 #[d.val, .string s] w fun e w' => e = .returned (.bool true) ∧ Below w.heap.size w w' := by
  have LA := Lib.hid (fun W => long06_any d W wd)
  have AW := Lib.hid (fun W (h : Below w.heap.size w W) => awake06 W (hI.below h))
  have S0 := new_d1 d w
  dsimp only at S0
  have hn64 : (bs d.name).size ≤ maxLen := by rw [bs_size]; exact wd.1
  have NA := Lib.hid (fun W (h : Below w.heap.size w W) => dname_any (bs d.name) W hn64 (hI.below h))
  have FA := Lib.hid (fun W (h : Below w.heap.size w W) => dfile_any (bs d.name) W hn64 (hI.below h))
  have OA := Lib.hid (fun W (h : Below w.heap.size w W) => may_any d.op W (hI.2.1.below h))
  have EA := Lib.hid (fun W (h : Below w.heap.size w W) => evMay_any d.evr true W wd.2.2)
  have MA := Lib.hid (fun W (h : Below w.heap.size w W) => dmay_any d W wd (hI.below h))
  have NS := Lib.hid (fun W (h : Below w.heap.size w W) => dname_any s W hs (hI.below h))
  have FS := Lib.hid (fun W (h : Below w.heap.size w W) => dfile_any s W hs (hI.below h))
  have MX := Lib.hid (fun W (h : Below w.heap.size w W) => dmay_any ⟨s.toList, d.op, d.evr⟩ W ⟨by rw [size_toList]; exact hs, wd.2⟩ (hI.below h))
  rw [bs_toList] at NA FA
  unfold maxLen at hs
  have ls2 : (s.size : Int) ≤ 1000 := by omega
  rw [la] at LA
  have f1 : (d.op == 0) = false := by simpa using h3
  have f2 : (d.op != 0) = true := by simpa using h3
  have hD : dmayB d = true := by unfold dmayB; rw [h1, h2, if_neg h3, h4, h5]; rfl
  rw [hD] at MA
  rw [h1] at NA
  rw [h2] at OA
  rw [h4] at EA
  rw [h5] at FA
  rw [k1] at NS
  rw [k2] at FS
  have hX := want_x (s := s.toList) hD
  rw [k1, k2, f1] at hX
  simp only [Bool.true_and, Bool.false_and, Bool.true_or, Bool.false_or, Bool.not_true, Bool.not_false] at hX
  rw [hX] at MX
  unfold Dp.val at MX
  dsimp only at MX
  rw [bs_of] at MX
  clear hX
  have j0 : 0 < s.size := by have := (name_iff.1 k1).1; rw [size_toList] at this; exact this
  have j1 : (0 : Int) < (s.size : Int) := by omega
  have j2 : ((s[0].toNat : Int) == 47) = false := by rw [← head_at j0]; have hq := k2; unfold fileB at hq; rw [k1, Bool.true_and] at hq; exact hq
  unfold Evr.val at EA
  clear hI wd la ls hn64 hD k1 k2 h1 h2 h3 h4 h5
  unfold Dp.val at *
  go_enter Tryd.func7, Tryd.ntmps7
  go_wp2_with fail
  go_at_call 36
  generalize (w.alloc (.cells #[.string (bs d.name), .int .u8 d.op, .int .i64 d.evr.epoch, .string (bs d.evr.ver), .string (bs d.evr.rel)] 40)) = W at *
  generalize hn : w.heap.size = n at *
  obtain ⟨c0_0, c0_1, c0_2, c0_3, c0_4, l0, hB⟩ := id S0
  refine (LA.out _).mono ?_
  rintro e1 w1 ⟨rfl, h⟩
  have S1 := keep_d1 S0 h
  clear S0 h c0_0 c0_1 c0_2 c0_3 c0_4 l0 hB
  obtain ⟨c0_0, c0_1, c0_2, c0_3, c0_4, l0, hB⟩ := id S1
  go_wp2_with fail
  go_at_call 30
  refine (AW.out _ hB).mono ?_
  rintro e2 w2 ⟨rfl, h⟩
  have S2 := keep_d1 S1 h
  clear c0_0 c0_1 c0_2 c0_3 c0_4 l0 hB
  clear S1 h
  obtain ⟨c0_0, c0_1, c0_2, c0_3, c0_4, l0, hB⟩ := id S2
  go_wp2_with fail
  go_at_call 37
  refine (NA.out _ hB).mono ?_
  rintro e3 w3 ⟨rfl, h⟩
  have S3 := keep_d1 S2 h
  clear c0_0 c0_1 c0_2 c0_3 c0_4 l0 hB
  clear S2 h
  obtain ⟨c0_0, c0_1, c0_2, c0_3, c0_4, l0, hB⟩ := id S3
  go_wp2_with fail
  go_at_call 26
  refine (OA.out _ hB).mono ?_
  rintro e4 w4 ⟨rfl, h⟩
  have S4 := keep_d1 S3 h
  clear c0_0 c0_1 c0_2 c0_3 c0_4 l0 hB
  clear S3 h
  obtain ⟨c0_0, c0_1, c0_2, c0_3, c0_4, l0, hB⟩ := id S4
  go_wp2_with fail
  go_at_call 38
  refine (EA.out _ hB).mono ?_
  rintro e5 w5 ⟨rfl, h⟩
  have S5 := keep_d1 S4 h
  clear c0_0 c0_1 c0_2 c0_3 c0_4 l0 hB
  clear S4 h
  obtain ⟨c0_0, c0_1, c0_2, c0_3, c0_4, l0, hB⟩ := id S5
  go_wp2_with fail
  go_at_call 39
  refine (FA.out _ hB).mono ?_
  rintro e6 w6 ⟨rfl, h⟩
  have S6 := keep_d1 S5 h
  clear c0_0 c0_1 c0_2 c0_3 c0_4 l0 hB
  clear S5 h
  obtain ⟨c0_0, c0_1, c0_2, c0_3, c0_4, l0, hB⟩ := id S6
  have SG := grow_d6 s S6
  dsimp only at SG
  go_wp2_with fail
  go_at_call 40
  generalize hV : w6.alloc (.cells #[.string s, .int .u8 d.op, .int .i64 d.evr.epoch, .string (bs d.evr.ver), .string (bs d.evr.rel)] 40) = V at *
  generalize w6.heap.size = m at *
  clear S6 hV c0_0 c0_1 c0_2 c0_3 c0_4 l0 hB
  obtain ⟨c0_0, c0_1, c0_2, c0_3, c0_4, c1_0, c1_1, c1_2, c1_3, c1_4, l0, l1, hB⟩ := id SG
  refine (MA.out _ hB).mono ?_
  rintro e7 w7 ⟨rfl, h⟩
  have S7 := keep_d6 SG h
  clear SG h MA c0_0 c0_1 c0_2 c0_3 c0_4 c1_0 c1_1 c1_2 c1_3 c1_4 l0 l1 hB
  obtain ⟨c0_0, c0_1, c0_2, c0_3, c0_4, c1_0, c1_1, c1_2, c1_3, c1_4, l0, l1, hB⟩ := id S7
  go_wp2_with fail
  go_at_call 40
  refine (MX.out _ hB).mono ?_
  rintro e8 w8 ⟨rfl, h⟩
  have S8 := keep_d6 S7 h
  clear c0_0 c0_1 c0_2 c0_3 c0_4 c1_0 c1_1 c1_2 c1_3 c1_4 l0 l1 hB
  clear S7 h
  obtain ⟨c0_0, c0_1, c0_2, c0_3, c0_4, c1_0, c1_1, c1_2, c1_3, c1_4, l0, l1, hB⟩ := id S8
  go_wp2_with fail
  go_at_call 37
  refine (NS.out _ hB).mono ?_
  rintro e9 w9 ⟨rfl, h⟩
  have S9 := keep_d6 S8 h
  clear c0_0 c0_1 c0_2 c0_3 c0_4 c1_0 c1_1 c1_2 c1_3 c1_4 l0 l1 hB
  clear S8 h
  obtain ⟨c0_0, c0_1, c0_2, c0_3, c0_4, c1_0, c1_1, c1_2, c1_3, c1_4, l0, l1, hB⟩ := id S9
  go_wp2_with fail
  go_at_call 39
  refine (FS.out _ hB).mono ?_
  rintro e10 w10 ⟨rfl, h⟩
  have S10 := keep_d6 S9 h
  clear c0_0 c0_1 c0_2 c0_3 c0_4 c1_0 c1_1 c1_2 c1_3 c1_4 l0 l1 hB
  clear S9 h
  obtain ⟨c0_0, c0_1, c0_2, c0_3, c0_4, c1_0, c1_1, c1_2, c1_3, c1_4, l0, l1, hB⟩ := id S10
  go_wp2_with fail
  go_at_call 39
  refine (FS.out _ hB).mono ?_
  rintro e11 w11 ⟨rfl, h⟩
  have S11 := keep_d6 S10 h
  clear c0_0 c0_1 c0_2 c0_3 c0_4 c1_0 c1_1 c1_2 c1_3 c1_4 l0 l1 hB
  clear S10 h
  obtain ⟨c0_0, c0_1, c0_2, c0_3, c0_4, c1_0, c1_1, c1_2, c1_3, c1_4, l0, l1, hB⟩ := id S11
  go_wp2_with fail
  go_at_call 37
  refine (NS.out _ hB).mono ?_
  rintro e12 w12 ⟨rfl, h⟩
  have S12 := keep_d6 S11 h
  clear c0_0 c0_1 c0_2 c0_3 c0_4 c1_0 c1_1 c1_2 c1_3 c1_4 l0 l1 hB
  clear S11 h
  obtain ⟨c0_0, c0_1, c0_2, c0_3, c0_4, c1_0, c1_1, c1_2, c1_3, c1_4, l0, l1, hB⟩ := id S12
  go_wp2_with fail
  go_ret
  exact ⟨rfl, by rw [hn]; exact hB⟩
end Go.Proofs.YtmmebheciolnoaaDoor
