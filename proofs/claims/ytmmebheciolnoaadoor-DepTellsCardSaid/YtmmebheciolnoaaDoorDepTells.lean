/- DepTells, walked. -/
import Derived.Test.YtmmebheciolnoaaDoorDepAwake
namespace Go.Proofs.YtmmebheciolnoaaDoor
open Go.RowKit Go.Shelf

set_option maxRecDepth 100000 in
set_option maxHeartbeats 16000000 in
theorem depTells_a (w : World) (hI : DpIn w) (d : Dp) (wd : d.wf) (s : ByteArray) (hs : s.size ≤ maxLen) (la : longD d = true) : Calls Tryd.prog 10 #[d.val, .string s] w fun e w' => e = .returned (.bool true) ∧ Below w.heap.size w w' := by
  have LA := Lib.hid (fun W => long06_any d W wd)
  have AW := Lib.hid (fun W (h : Below w.heap.size w W) => awake06 W (hI.below h))
  have S0 := new_d1 d w
  dsimp only at S0
  rw [la] at LA
  unfold maxLen at hs
  clear la
  clear hI wd
  unfold Dp.val at *
  go_enter Tryd.func10, Tryd.ntmps10
  go_wp2_with fail
  go_at_call 36
  generalize (w.alloc (.cells #[.string (bs d.name), .int .u8 d.op, .int .i64 d.evr.epoch, .string (bs d.evr.ver), .string (bs d.evr.rel)] 40)) = W at *
  generalize hn : w.heap.size = n at *
  obtain ⟨c0_0, c0_1, c0_2, c0_3, c0_4, l0, hB⟩ := id S0
  refine (LA.out _).mono ?_
  rintro e1 w1 ⟨rfl, h⟩
  have S1 := keep_d1 S0 h
  clear S0 h c0_0 c0_1 c0_2 c0_3 c0_4 l0 hB
  obtain ⟨c0_0, c0_1, c0_2, c0_3, c0_4, l0, hB⟩ := id S1
  go_wp2_with fail
  go_at_call 30
  refine (AW.out _ hB).mono ?_
  rintro e2 w2 ⟨rfl, h⟩
  have S2 := keep_d1 S1 h
  clear c0_0 c0_1 c0_2 c0_3 c0_4 l0 hB
  clear S1 h
  obtain ⟨c0_0, c0_1, c0_2, c0_3, c0_4, l0, hB⟩ := id S2
  go_wp2_with fail
  go_ret
  exact ⟨rfl, by rw [hn]; exact hB⟩
set_option maxRecDepth 100000 in
set_option maxHeartbeats 16000000 in
theorem depTells_s (w : World) (hI : DpIn w) (d : Dp) (wd : d.wf) (s : ByteArray) (hs : s.size ≤ maxLen) (la : longD d = false) (ls : 1000 < s.size) : Calls Tryd.prog 10 #[d.val, .string s] w fun e w' => e = .returned (.bool true) ∧ Below w.heap.size w w' := by
  have LA := Lib.hid (fun W => long06_any d W wd)
  have AW := Lib.hid (fun W (h : Below w.heap.size w W) => awake06 W (hI.below h))
  have S0 := new_d1 d w
  dsimp only at S0
  rw [la] at LA
  unfold maxLen at hs
  clear la
  have ls2 : (1000 : Int) < (s.size : Int) := by omega
  clear hI wd ls
  unfold Dp.val at *
  go_enter Tryd.func10, Tryd.ntmps10
  go_wp2_with fail
  go_at_call 36
  generalize (w.alloc (.cells #[.string (bs d.name), .int .u8 d.op, .int .i64 d.evr.epoch, .string (bs d.evr.ver), .string (bs d.evr.rel)] 40)) = W at *
  generalize hn : w.heap.size = n at *
  obtain ⟨c0_0, c0_1, c0_2, c0_3, c0_4, l0, hB⟩ := id S0
  refine (LA.out _).mono ?_
  rintro e1 w1 ⟨rfl, h⟩
  have S1 := keep_d1 S0 h
  clear S0 h c0_0 c0_1 c0_2 c0_3 c0_4 l0 hB
  obtain ⟨c0_0, c0_1, c0_2, c0_3, c0_4, l0, hB⟩ := id S1
  go_wp2_with fail
  go_at_call 30
  refine (AW.out _ hB).mono ?_
  rintro e2 w2 ⟨rfl, h⟩
  have S2 := keep_d1 S1 h
  clear c0_0 c0_1 c0_2 c0_3 c0_4 l0 hB
  clear S1 h
  obtain ⟨c0_0, c0_1, c0_2, c0_3, c0_4, l0, hB⟩ := id S2
  go_wp2_with fail
  go_ret
  exact ⟨rfl, by rw [hn]; exact hB⟩
theorem showDV_form (d : Dp) : ∃ T c, showDV d = .tuple #[.string T, .int .i64 c] := by
  unfold showDV
  split
  · exact ⟨_, _, rfl⟩
  · exact ⟨_, _, rfl⟩
theorem keep_dt {d : Dp} {n : Nat} {w W W' : World} {L : List ByteArray} {A B : Option Addr} (h : (W.cell? ⟨n, 0, none⟩ = some (.string (bs d.name)) ∧ W.cell? ⟨n, 1, none⟩ = some (.int .u8 d.op) ∧ W.cell? ⟨n, 2, none⟩ = some (.int .i64 d.evr.epoch) ∧ W.cell? ⟨n, 3, none⟩ = some (.string (bs d.evr.ver)) ∧ W.cell? ⟨n, 4, none⟩ = some (.string (bs d.evr.rel)) ∧ n < W.heap.size ∧ Below n w W) ∧ TR W A L ∧ TR W B L) (hb : Below W.heap.size W W') : (W'.cell? ⟨n, 0, none⟩ = some (.string (bs d.name)) ∧ W'.cell? ⟨n, 1, none⟩ = some (.int .u8 d.op) ∧ W'.cell? ⟨n, 2, none⟩ = some (.int .i64 d.evr.epoch) ∧ W'.cell? ⟨n, 3, none⟩ = some (.string (bs d.evr.ver)) ∧ W'.cell? ⟨n, 4, none⟩ = some (.string (bs d.evr.rel)) ∧ n < W'.heap.size ∧ Below n w W') ∧ TR W' A L ∧ TR W' B L :=
  ⟨keep_d1 h.1 hb, h.2.1.calls hb, h.2.2.calls hb⟩
set_option maxRecDepth 100000 in
set_option maxHeartbeats 16000000 in
theorem depTells_all (w : World) (hI : DpIn w) (d : Dp) (wd : d.wf) (s : ByteArray) (hs : s.size ≤ maxLen) (la : longD d = false) (ls : s.size ≤ 1000) : Calls Tryd.prog 10 #[d.val, .string s] w fun e w' => e = .returned (.bool true) ∧ Below w.heap.size w w' := by
  have LA := Lib.hid (fun W => long06_any d W wd)
  have AW := Lib.hid (fun W (h : Below w.heap.size w W) => awake06 W (hI.below h))
  have S0 := new_d1 d w
  dsimp only at S0
  rw [la] at LA
  have ls2 : (s.size : Int) ≤ 1000 := by omega
  have hn64 : (bs d.name).size ≤ maxLen := by rw [bs_size]; exact wd.1
  have SA := Lib.hid (fun W (h : Below w.heap.size w W) => dshow_any d W wd (hI.below h))
  have SB := Lib.hid (fun W (h : Below w.heap.size w W) => rdshow_any d W wd)
  have WA := Lib.hid (fun W (h : Below w.heap.size w W) => dwords_any d W wd (hI.below h))
  have WB := Lib.hid (fun W (h : Below w.heap.size w W) => rdwords_any d W wd)
  have NS := Lib.hid (fun W (h : Below w.heap.size w W) => dname_any s W hs (hI.below h))
  have NR := Lib.hid (fun W (h : Below w.heap.size w W) => rdname_any s W hs)
  have FS := Lib.hid (fun W (h : Below w.heap.size w W) => dfile_any s W hs (hI.below h))
  have FR := Lib.hid (fun W (h : Below w.heap.size w W) => rdfile_any s W hs)
  have MA := Lib.hid (fun W (h : Below w.heap.size w W) => dmay_any d W wd (hI.below h))
  have MB := Lib.hid (fun W (h : Below w.heap.size w W) => rdmay_any d W wd)
  have OA := Lib.hid (fun W => down_any s d.evr W)
  have OB := Lib.hid (fun W => rdown_any s d.evr W)
  have hL : (wordsL d).length ≤ 1000000000 := by unfold wordsL; split <;> first | (rw [List.length_map]; rcases dwords_len d with h | h <;> omega) | simp
  have TX := Lib.hid (fun A B c e W (h1 : TR W A (wordsL d)) (h2 : TR W B (wordsL d)) => show Calls Tryd.prog 35 #[.slice A (wordsL d).length c, .slice B (wordsL d).length e] W fun r w' => r = .returned (.bool true) ∧ Below W.heap.size W w' from by have h := textsR06_any A B c e _ _ W hL hL h1 h2; rw [decide_eq_true (rfl : wordsL d = wordsL d)] at h; exact h)
  obtain ⟨T, cd, hT⟩ := showDV_form d
  rw [hT] at SA SB
  unfold WordsPost at WA WB
  generalize wordsL d = L at *
  generalize codeD d = c0 at *
  generalize dmayB d = r1 at *
  generalize nameB s.toList = r2 at *
  generalize fileB s.toList = r3 at *
  unfold Evr.val at OA OB
  clear hI wd la ls hT hn64 hL
  unfold Dp.val at *
  go_enter Tryd.func10, Tryd.ntmps10
  go_wp2_with fail
  go_at_call 36
  generalize (w.alloc (.cells #[.string (bs d.name), .int .u8 d.op, .int .i64 d.evr.epoch, .string (bs d.evr.ver), .string (bs d.evr.rel)] 40)) = W at *
  generalize hn : w.heap.size = n at *
  obtain ⟨c0_0, c0_1, c0_2, c0_3, c0_4, l0, hB⟩ := id S0
  refine (LA.out _).mono ?_
  rintro e1 w1 ⟨rfl, h⟩
  have S1 := keep_d1 S0 h
  clear S0 h c0_0 c0_1 c0_2 c0_3 c0_4 l0 hB
  obtain ⟨c0_0, c0_1, c0_2, c0_3, c0_4, l0, hB⟩ := id S1
  go_wp2_with fail
  go_at_call 41
  refine (SA.out _ hB).mono ?_
  rintro e2 w2 ⟨rfl, h⟩
  have S2 := keep_d1 S1 h
  clear c0_0 c0_1 c0_2 c0_3 c0_4 l0 hB
  clear S1 h
  obtain ⟨c0_0, c0_1, c0_2, c0_3, c0_4, l0, hB⟩ := id S2
  go_wp2_with fail
  go_at_call 43
  refine (SB.out _ hB).mono ?_
  rintro e3 w3 ⟨rfl, h⟩
  have S3 := keep_d1 S2 h
  clear c0_0 c0_1 c0_2 c0_3 c0_4 l0 hB
  clear S2 h
  obtain ⟨c0_0, c0_1, c0_2, c0_3, c0_4, l0, hB⟩ := id S3
  go_wp2_with fail
  go_at_call 42
  refine (WA.out _ hB).mono ?_
  rintro e4 w4 ⟨Aa, ca, rfl, Ta, _, h⟩
  have S4 := keep_d1 S3 h
  clear c0_0 c0_1 c0_2 c0_3 c0_4 l0 hB
  clear S3 h
  obtain ⟨c0_0, c0_1, c0_2, c0_3, c0_4, l0, hB⟩ := id S4
  go_wp2_with fail
  go_at_call 44
  refine (WB.out _ hB).mono ?_
  rintro e5 w5 ⟨Ab, cb, rfl, Tb, _, h⟩
  have S5 := keep_d1 S4 h
  clear c0_0 c0_1 c0_2 c0_3 c0_4 l0 hB
  have Ta := Ta.calls h
  clear S4 h
  obtain ⟨c0_0, c0_1, c0_2, c0_3, c0_4, l0, hB⟩ := id S5
  clear LA SA SB WA WB
  go_wp2_with fail
  go_region_held3 (fun W => (W.cell? ⟨n, 0, none⟩ = some (.string (bs d.name)) ∧ W.cell? ⟨n, 1, none⟩ = some (.int .u8 d.op) ∧ W.cell? ⟨n, 2, none⟩ = some (.int .i64 d.evr.epoch) ∧ W.cell? ⟨n, 3, none⟩ = some (.string (bs d.evr.ver)) ∧ W.cell? ⟨n, 4, none⟩ = some (.string (bs d.evr.rel)) ∧ n < W.heap.size ∧ Below n w W) ∧ TR W Aa L ∧ TR W Ab L) (first | exact keep_dt (by assumption) hbb | exact ⟨⟨c0_0, c0_1, c0_2, c0_3, c0_4, l0, hB.drew⟩, Ta, Tb⟩ | go_keep) (first | (go_at_call 35; refine (TX.out _ _ _ _ _ (And.left (And.right (by assumption))) (And.right (And.right (by assumption)))).mono ?_; rintro e w' ⟨rfl, hbb⟩) | (go_at_call 37; refine (NS.out _ (tail_d1 (And.left (by assumption)))).mono ?_; rintro e w' ⟨rfl, hbb⟩) | (go_at_call 45; refine (NR.out _ (tail_d1 (And.left (by assumption)))).mono ?_; rintro e w' ⟨rfl, hbb⟩) | (go_at_call 39; refine (FS.out _ (tail_d1 (And.left (by assumption)))).mono ?_; rintro e w' ⟨rfl, hbb⟩) | (go_at_call 46; refine (FR.out _ (tail_d1 (And.left (by assumption)))).mono ?_; rintro e w' ⟨rfl, hbb⟩) | (go_at_call 40; refine (MA.out _ (tail_d1 (And.left (by assumption)))).mono ?_; rintro e w' ⟨rfl, hbb⟩) | (go_at_call 47; refine (MB.out _ (tail_d1 (And.left (by assumption)))).mono ?_; rintro e w' ⟨rfl, hbb⟩) | (go_at_call 48; refine (OA.out _).mono ?_; rintro e w' ⟨rfl, hbb⟩) | (go_at_call 49; refine (OB.out _).mono ?_; rintro e w' ⟨rfl, hbb⟩) | (go_at_call 30; refine (AW.out _ (tail_d1 (And.left (by assumption)))).mono ?_; rintro e w' ⟨rfl, hbb⟩))
  all_goals
    rename_i hh
    go_wp2
    go_ret
    exact ⟨rfl, by rw [hn]; exact tail_d1 hh.1⟩
theorem depTells_row (w : World) (hI : DpIn w) (d : Dp) (wd : d.wf) (s : ByteArray) (hs : s.size ≤ maxLen) : Calls Tryd.prog 10 #[d.val, .string s] w fun e w' => e = .returned (.bool true) ∧ Below w.heap.size w w' := by
  cases la : longD d with
  | true => exact depTells_a w hI d wd s hs la
  | false =>
    by_cases ls : s.size ≤ 1000
    · exact depTells_all w hI d wd s hs la ls
    · exact depTells_s w hI d wd s hs la (by omega)
end Go.Proofs.YtmmebheciolnoaaDoor
