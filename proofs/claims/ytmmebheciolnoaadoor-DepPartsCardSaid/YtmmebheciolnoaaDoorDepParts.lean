/- DepParts, walked. -/
import Derived.Test.YtmmebheciolnoaaDoorDepPartsA
import Derived.Test.YtmmebheciolnoaaDoorDepPartsB
import Derived.Test.YtmmebheciolnoaaDoorDepPartsC
namespace Go.Proofs.YtmmebheciolnoaaDoor
open Go.RowKit Go.Shelf
set_option linter.unusedVariables false

set_option maxRecDepth 100000 in
set_option maxHeartbeats 16000000 in
theorem depParts_a (w : World) (hI : DpIn w) (d : Dp) (wd : d.wf) (s : ByteArray) (hs : s.size ≤ maxLen) (la : longD d = true) : Calls Tryd.prog 7 #[d.val, .string s] w fun e w' => e = .returned (.bool true) ∧ Below w.heap.size w w' := by
  have LA := Lib.hid (fun W => long06_any d W wd)
  have AW := Lib.hid (fun W (h : Below w.heap.size w W) => awake06 W (hI.below h))
  have S0 := new_d1 d w
  dsimp only at S0
  rw [la] at LA
  unfold maxLen at hs
  clear la
  clear hI wd
  unfold Dp.val at *
  go_enter Tryd.func7, Tryd.ntmps7
  go_wp2_with fail
  go_at_call 36
  generalize (w.alloc (.cells #[.string (bs d.name), .int .u8 d.op, .int .i64 d.evr.epoch, .string (bs d.evr.ver), .string (bs d.evr.rel)] 40)) = W at *
  generalize hn : w.heap.size = n at *
  obtain ⟨c0_0, c0_1, c0_2, c0_3, c0_4, l0, hB⟩ := id S0
  refine (LA.out _).mono ?_
  rintro e1 w1 ⟨rfl, h⟩
  have S1 := keep_d1 S0 h
  clear S0 h c0_0 c0_1 c0_2 c0_3 c0_4 l0 hB
  obtain ⟨c0_0, c0_1, c0_2, c0_3, c0_4, l0, hB⟩ := id S1
  go_wp2_with fail
  go_at_call 30
  refine (AW.out _ hB).mono ?_
  rintro e2 w2 ⟨rfl, h⟩
  have S2 := keep_d1 S1 h
  clear c0_0 c0_1 c0_2 c0_3 c0_4 l0 hB
  clear S1 h
  obtain ⟨c0_0, c0_1, c0_2, c0_3, c0_4, l0, hB⟩ := id S2
  go_wp2_with fail
  go_ret
  exact ⟨rfl, by rw [hn]; exact hB⟩
set_option maxRecDepth 100000 in
set_option maxHeartbeats 16000000 in
theorem depParts_s (w : World) (hI : DpIn w) (d : Dp) (wd : d.wf) (s : ByteArray) (hs : s.size ≤ maxLen) (la : longD d = false) (ls : 1000 < s.size) : Calls Tryd.prog 7 #[d.val, .string s] w fun e w' => e = .returned (.bool true) ∧ Below w.heap.size w w' := by
  have LA := Lib.hid (fun W => long06_any d W wd)
  have AW := Lib.hid (fun W (h : Below w.heap.size w W) => awake06 W (hI.below h))
  have S0 := new_d1 d w
  dsimp only at S0
  rw [la] at LA
  unfold maxLen at hs
  clear la
  have ls2 : (1000 : Int) < (s.size : Int) := by omega
  clear hI wd ls
  unfold Dp.val at *
  go_enter Tryd.func7, Tryd.ntmps7
  go_wp2_with fail
  go_at_call 36
  generalize (w.alloc (.cells #[.string (bs d.name), .int .u8 d.op, .int .i64 d.evr.epoch, .string (bs d.evr.ver), .string (bs d.evr.rel)] 40)) = W at *
  generalize hn : w.heap.size = n at *
  obtain ⟨c0_0, c0_1, c0_2, c0_3, c0_4, l0, hB⟩ := id S0
  refine (LA.out _).mono ?_
  rintro e1 w1 ⟨rfl, h⟩
  have S1 := keep_d1 S0 h
  clear S0 h c0_0 c0_1 c0_2 c0_3 c0_4 l0 hB
  obtain ⟨c0_0, c0_1, c0_2, c0_3, c0_4, l0, hB⟩ := id S1
  go_wp2_with fail
  go_at_call 30
  refine (AW.out _ hB).mono ?_
  rintro e2 w2 ⟨rfl, h⟩
  have S2 := keep_d1 S1 h
  clear c0_0 c0_1 c0_2 c0_3 c0_4 l0 hB
  clear S1 h
  obtain ⟨c0_0, c0_1, c0_2, c0_3, c0_4, l0, hB⟩ := id S2
  go_wp2_with fail
  go_ret
  exact ⟨rfl, by rw [hn]; exact hB⟩
theorem depParts_n (w : World) (hI : DpIn w) (d : Dp) (wd : d.wf) (s : ByteArray) (hs : s.size ≤ maxLen) (la : longD d = false) (ls : s.size ≤ 1000) (h1 : nameB d.name = false) : Calls Tryd.prog 7 #[d.val, .string s] w fun e w' => e = .returned (.bool true) ∧ Below w.heap.size w w' := by
  cases k1 : nameB s.toList with
  | false => exact depParts_n_n w hI d wd s hs la ls h1 k1
  | true =>
    cases k2 : fileB s.toList with
    | true => exact depParts_n_f w hI d wd s hs la ls h1 k1 k2
    | false => exact depParts_n_g w hI d wd s hs la ls h1 k1 k2
theorem depParts_o (w : World) (hI : DpIn w) (d : Dp) (wd : d.wf) (s : ByteArray) (hs : s.size ≤ maxLen) (la : longD d = false) (ls : s.size ≤ 1000) (h1 : nameB d.name = true) (h2 : opMay d.op = false) : Calls Tryd.prog 7 #[d.val, .string s] w fun e w' => e = .returned (.bool true) ∧ Below w.heap.size w w' := by
  cases k1 : nameB s.toList with
  | false => exact depParts_o_n w hI d wd s hs la ls h1 h2 k1
  | true =>
    cases k2 : fileB s.toList with
    | true => exact depParts_o_f w hI d wd s hs la ls h1 h2 k1 k2
    | false => exact depParts_o_g w hI d wd s hs la ls h1 h2 k1 k2
theorem depParts_z1 (w : World) (hI : DpIn w) (d : Dp) (wd : d.wf) (s : ByteArray) (hs : s.size ≤ maxLen) (la : longD d = false) (ls : s.size ≤ 1000) (h1 : nameB d.name = true) (h2 : opMay d.op = true) (h3 : d.op = 0) (h4 : d.evr.epoch ≠ 0) : Calls Tryd.prog 7 #[d.val, .string s] w fun e w' => e = .returned (.bool true) ∧ Below w.heap.size w w' := by
  cases k1 : nameB s.toList with
  | false => exact depParts_z1_n w hI d wd s hs la ls h1 h2 h3 h4 k1
  | true =>
    cases k2 : fileB s.toList with
    | true => exact depParts_z1_f w hI d wd s hs la ls h1 h2 h3 h4 k1 k2
    | false => exact depParts_z1_g w hI d wd s hs la ls h1 h2 h3 h4 k1 k2
theorem depParts_z2 (w : World) (hI : DpIn w) (d : Dp) (wd : d.wf) (s : ByteArray) (hs : s.size ≤ maxLen) (la : longD d = false) (ls : s.size ≤ 1000) (h1 : nameB d.name = true) (h2 : opMay d.op = true) (h3 : d.op = 0) (h4 : d.evr.epoch = 0) (h5 : d.evr.ver ≠ []) : Calls Tryd.prog 7 #[d.val, .string s] w fun e w' => e = .returned (.bool true) ∧ Below w.heap.size w w' := by
  cases k1 : nameB s.toList with
  | false => exact depParts_z2_n w hI d wd s hs la ls h1 h2 h3 h4 h5 k1
  | true =>
    cases k2 : fileB s.toList with
    | true => exact depParts_z2_f w hI d wd s hs la ls h1 h2 h3 h4 h5 k1 k2
    | false => exact depParts_z2_g w hI d wd s hs la ls h1 h2 h3 h4 h5 k1 k2
theorem depParts_z3 (w : World) (hI : DpIn w) (d : Dp) (wd : d.wf) (s : ByteArray) (hs : s.size ≤ maxLen) (la : longD d = false) (ls : s.size ≤ 1000) (h1 : nameB d.name = true) (h2 : opMay d.op = true) (h3 : d.op = 0) (h4 : d.evr.epoch = 0) (h5 : d.evr.ver = []) (h6 : d.evr.rel ≠ []) : Calls Tryd.prog 7 #[d.val, .string s] w fun e w' => e = .returned (.bool true) ∧ Below w.heap.size w w' := by
  cases k1 : nameB s.toList with
  | false => exact depParts_z3_n w hI d wd s hs la ls h1 h2 h3 h4 h5 h6 k1
  | true =>
    cases k2 : fileB s.toList with
    | true => exact depParts_z3_f w hI d wd s hs la ls h1 h2 h3 h4 h5 h6 k1 k2
    | false => exact depParts_z3_g w hI d wd s hs la ls h1 h2 h3 h4 h5 h6 k1 k2
theorem depParts_e (w : World) (hI : DpIn w) (d : Dp) (wd : d.wf) (s : ByteArray) (hs : s.size ≤ maxLen) (la : longD d = false) (ls : s.size ≤ 1000) (h1 : nameB d.name = true) (h2 : opMay d.op = true) (h3 : d.op ≠ 0) (h4 : mayB d.evr true = false) : Calls Tryd.prog 7 #[d.val, .string s] w fun e w' => e = .returned (.bool true) ∧ Below w.heap.size w w' := by
  cases k1 : nameB s.toList with
  | false => exact depParts_e_n w hI d wd s hs la ls h1 h2 h3 h4 k1
  | true =>
    cases k2 : fileB s.toList with
    | true => exact depParts_e_f w hI d wd s hs la ls h1 h2 h3 h4 k1 k2
    | false => exact depParts_e_g w hI d wd s hs la ls h1 h2 h3 h4 k1 k2
theorem depParts_f (w : World) (hI : DpIn w) (d : Dp) (wd : d.wf) (s : ByteArray) (hs : s.size ≤ maxLen) (la : longD d = false) (ls : s.size ≤ 1000) (h1 : nameB d.name = true) (h2 : opMay d.op = true) (h3 : d.op ≠ 0) (h4 : mayB d.evr true = true) (h5 : fileB d.name = true) : Calls Tryd.prog 7 #[d.val, .string s] w fun e w' => e = .returned (.bool true) ∧ Below w.heap.size w w' := by
  cases k1 : nameB s.toList with
  | false => exact depParts_f_n w hI d wd s hs la ls h1 h2 h3 h4 h5 k1
  | true =>
    cases k2 : fileB s.toList with
    | true => exact depParts_f_f w hI d wd s hs la ls h1 h2 h3 h4 h5 k1 k2
    | false => exact depParts_f_g w hI d wd s hs la ls h1 h2 h3 h4 h5 k1 k2
theorem depParts_y0 (w : World) (hI : DpIn w) (d : Dp) (wd : d.wf) (s : ByteArray) (hs : s.size ≤ maxLen) (la : longD d = false) (ls : s.size ≤ 1000) (h1 : nameB d.name = true) (h2 : opMay d.op = true) (h3 : d.op = 0) (h4 : d.evr.epoch = 0) (h5 : d.evr.ver = []) (h6 : d.evr.rel = []) : Calls Tryd.prog 7 #[d.val, .string s] w fun e w' => e = .returned (.bool true) ∧ Below w.heap.size w w' := by
  cases k1 : nameB s.toList with
  | false => exact depParts_y0_n w hI d wd s hs la ls h1 h2 h3 h4 h5 h6 k1
  | true =>
    cases k2 : fileB s.toList with
    | true => exact depParts_y0_f w hI d wd s hs la ls h1 h2 h3 h4 h5 h6 k1 k2
    | false => exact depParts_y0_g w hI d wd s hs la ls h1 h2 h3 h4 h5 h6 k1 k2
theorem depParts_y1 (w : World) (hI : DpIn w) (d : Dp) (wd : d.wf) (s : ByteArray) (hs : s.size ≤ maxLen) (la : longD d = false) (ls : s.size ≤ 1000) (h1 : nameB d.name = true) (h2 : opMay d.op = true) (h3 : d.op ≠ 0) (h4 : mayB d.evr true = true) (h5 : fileB d.name = false) : Calls Tryd.prog 7 #[d.val, .string s] w fun e w' => e = .returned (.bool true) ∧ Below w.heap.size w w' := by
  cases k1 : nameB s.toList with
  | false => exact depParts_y1_n w hI d wd s hs la ls h1 h2 h3 h4 h5 k1
  | true =>
    cases k2 : fileB s.toList with
    | true => exact depParts_y1_f w hI d wd s hs la ls h1 h2 h3 h4 h5 k1 k2
    | false => exact depParts_y1_g w hI d wd s hs la ls h1 h2 h3 h4 h5 k1 k2
theorem depParts_row (w : World) (hI : DpIn w) (d : Dp) (wd : d.wf) (s : ByteArray) (hs : s.size ≤ maxLen) : Calls Tryd.prog 7 #[d.val, .string s] w fun e w' => e = .returned (.bool true) ∧ Below w.heap.size w w' := by
  cases la : longD d with
  | true => exact depParts_a w hI d wd s hs la
  | false =>
    by_cases ls : s.size ≤ 1000
    · cases h1 : nameB d.name with
      | false => exact depParts_n w hI d wd s hs la ls h1
      | true =>
        cases h2 : opMay d.op with
        | false => exact depParts_o w hI d wd s hs la ls h1 h2
        | true =>
          by_cases h3 : d.op = 0
          · by_cases h4 : d.evr.epoch = 0
            · by_cases h5 : d.evr.ver = []
              · by_cases h6 : d.evr.rel = []
                · exact depParts_y0 w hI d wd s hs la ls h1 h2 h3 h4 h5 h6
                · exact depParts_z3 w hI d wd s hs la ls h1 h2 h3 h4 h5 h6
              · exact depParts_z2 w hI d wd s hs la ls h1 h2 h3 h4 h5
            · exact depParts_z1 w hI d wd s hs la ls h1 h2 h3 h4
          · cases h4 : mayB d.evr true with
            | false => exact depParts_e w hI d wd s hs la ls h1 h2 h3 h4
            | true =>
              cases h5 : fileB d.name with
              | true => exact depParts_f w hI d wd s hs la ls h1 h2 h3 h4 h5
              | false => exact depParts_y1 w hI d wd s hs la ls h1 h2 h3 h4 h5
    · exact depParts_s w hI d wd s hs la (by omega)
end Go.Proofs.YtmmebheciolnoaaDoor
