/- DepMay -/
import Derived.Test.YtcpjignlhlcnpaaDoorPkgNamesRowG13
import Derived.Test.YtcpjignlhlcnpaaDoorPkgNamesRowG10
import Derived.Test.YtcpjignlhlcnpaaDoorPkgNamesRowG08
import Derived.Laws.IdiomStrings
import Derived.RegionTactic
import Derived.Deep.QuietTactic
import Derived.BigQuiet
import Derived.ChangeAlike
set_option linter.unusedSimpArgs false
set_option linter.unusedVariables false
/- Walks: which dependencies may be. -/




namespace Go.Proofs.YtcpjignlhlcnpaaDoor
open Go.RowKit Go.Shelf

theorem keep_d1 {d : Dp} {n : Nat} {w W W' : World} (h : W.cell? ⟨n, 0, none⟩ = some (.string (bs d.name)) ∧ W.cell? ⟨n, 1, none⟩ = some (.int .u8 d.op) ∧ W.cell? ⟨n, 2, none⟩ = some (.int .i64 d.evr.epoch) ∧ W.cell? ⟨n, 3, none⟩ = some (.string (bs d.evr.ver)) ∧ W.cell? ⟨n, 4, none⟩ = some (.string (bs d.evr.rel)) ∧ n < W.heap.size ∧ Below n w W) (hb : Below W.heap.size W W') :
    W'.cell? ⟨n, 0, none⟩ = some (.string (bs d.name)) ∧ W'.cell? ⟨n, 1, none⟩ = some (.int .u8 d.op) ∧ W'.cell? ⟨n, 2, none⟩ = some (.int .i64 d.evr.epoch) ∧ W'.cell? ⟨n, 3, none⟩ = some (.string (bs d.evr.ver)) ∧ W'.cell? ⟨n, 4, none⟩ = some (.string (bs d.evr.rel)) ∧ n < W'.heap.size ∧ Below n w W' := by
  obtain ⟨c0_0, c0_1, c0_2, c0_3, c0_4, l0, hB⟩ := h
  have hB_le : n ≤ W.heap.size := by omega
  exact ⟨(hb.cell (p := ⟨n, 0, none⟩) l0).trans c0_0, (hb.cell (p := ⟨n, 1, none⟩) l0).trans c0_1, (hb.cell (p := ⟨n, 2, none⟩) l0).trans c0_2, (hb.cell (p := ⟨n, 3, none⟩) l0).trans c0_3, (hb.cell (p := ⟨n, 4, none⟩) l0).trans c0_4, Nat.lt_of_lt_of_le l0 hb.size, hB.trans (hb.mono hB_le)⟩
theorem new_d1 (d : Dp) (w : World) : let W := (w.alloc (.cells #[.string (bs d.name), .int .u8 d.op, .int .i64 d.evr.epoch, .string (bs d.evr.ver), .string (bs d.evr.rel)] 25)); let n := w.heap.size; W.cell? ⟨n, 0, none⟩ = some (.string (bs d.name)) ∧ W.cell? ⟨n, 1, none⟩ = some (.int .u8 d.op) ∧ W.cell? ⟨n, 2, none⟩ = some (.int .i64 d.evr.epoch) ∧ W.cell? ⟨n, 3, none⟩ = some (.string (bs d.evr.ver)) ∧ W.cell? ⟨n, 4, none⟩ = some (.string (bs d.evr.rel)) ∧ n < W.heap.size ∧ Below n w W := by
  refine ⟨?_, ?_, ?_, ?_, ?_, ?_, ?_⟩
  all_goals first | exact (World.cell?_alloc_at _ _ _ _ (by simp)).trans rfl | exact ((Below.refl _ _).alloc (by simp; try omega) _) | (simp; try omega)
set_option maxRecDepth 100000 in
set_option maxHeartbeats 16000000 in
theorem dmay_pk (d : Dp) (w : World) (hw : d.wf) (hI : PkIn w) : Calls Tryd.prog 15 #[d.val] w fun e w' => e = .returned (.bool (dmayB d)) ∧ Below w.heap.size w w' := by
  have hn64 : (bs d.name).size ≤ maxLen := by rw [bs_size]; exact hw.1
  have NA := Lib.hid (fun W (h : Below w.heap.size w W) => dname_pk (bs d.name) W hn64 (hI.below h))
  have FA := Lib.hid (fun W (h : Below w.heap.size w W) => dfile_pk (bs d.name) W hn64 (hI.below h))
  have OA := Lib.hid (fun W (h : Below w.heap.size w W) => may_any d.op W (hI.1.below h))
  have EA := Lib.hid (fun W (h : Below w.heap.size w W) => evMay_any d.evr true W hw.2.2)
  rw [bs_toList] at NA FA
  have S0 := new_d1 d w
  dsimp only at S0
  obtain ⟨r, hr⟩ : ∃ r, r = dmayB d := ⟨_, rfl⟩
  rw [← hr]
  unfold dmayB at hr
  clear hI hw hn64
  cases h1 : nameB d.name with
  | false =>
    rw [h1] at NA hr
    obtain rfl : r = false := hr
    clear FA OA EA h1
    unfold Dp.val
    go_enter Tryd.func15, Tryd.ntmps15
    go_wp2_with fail
    go_at_call 10
    generalize (w.alloc (.cells #[.string (bs d.name), .int .u8 d.op, .int .i64 d.evr.epoch, .string (bs d.evr.ver), .string (bs d.evr.rel)] 25)) = W at *
    generalize hn : w.heap.size = n at *
    obtain ⟨c0_0, c0_1, c0_2, c0_3, c0_4, l0, hB⟩ := id S0
    refine (NA.out _ hB).mono ?_
    rintro e1 w1 ⟨rfl, h⟩
    have S1 := keep_d1 S0 h
    clear S0 h c0_0 c0_1 c0_2 c0_3 c0_4 l0 hB
    obtain ⟨c0_0, c0_1, c0_2, c0_3, c0_4, l0, hB⟩ := id S1
    go_wp2_with fail
    go_ret
    exact ⟨rfl, by rw [hn]; exact hB⟩
  | true =>
    rw [h1] at NA hr
    cases h2 : opMay d.op with
    | false =>
      rw [h2] at OA hr
      obtain rfl : r = false := hr
      clear FA EA h1 h2
      unfold Dp.val
      go_enter Tryd.func15, Tryd.ntmps15
      go_wp2_with fail
      go_at_call 10
      generalize (w.alloc (.cells #[.string (bs d.name), .int .u8 d.op, .int .i64 d.evr.epoch, .string (bs d.evr.ver), .string (bs d.evr.rel)] 25)) = W at *
      generalize hn : w.heap.size = n at *
      obtain ⟨c0_0, c0_1, c0_2, c0_3, c0_4, l0, hB⟩ := id S0
      refine (NA.out _ hB).mono ?_
      rintro e1 w1 ⟨rfl, h⟩
      have S1 := keep_d1 S0 h
      clear S0 h c0_0 c0_1 c0_2 c0_3 c0_4 l0 hB
      obtain ⟨c0_0, c0_1, c0_2, c0_3, c0_4, l0, hB⟩ := id S1
      go_wp2_with fail
      go_at_call 33
      refine (OA.out _ hB).mono ?_
      rintro e2 w2 ⟨rfl, h⟩
      have S2 := keep_d1 S1 h
      clear c0_0 c0_1 c0_2 c0_3 c0_4 l0 hB
      clear S1 h
      obtain ⟨c0_0, c0_1, c0_2, c0_3, c0_4, l0, hB⟩ := id S2
      go_wp2_with fail
      go_ret
      exact ⟨rfl, by rw [hn]; exact hB⟩
    | true =>
      rw [h2] at OA hr
      by_cases h3 : d.op = 0
      · rw [if_pos h3] at hr
        clear FA EA h1 h2
        have h4 : (d.op == 0) = true := by simpa using h3
        have HR := Lib.hid hr
        unfold isZero at HR
        clear hr h3
        have q1 : (bs d.evr.ver).toList = d.evr.ver := bs_toList _
        have q2 : (bs d.evr.rel).toList = d.evr.rel := bs_toList _
        unfold Dp.val
        go_enter Tryd.func15, Tryd.ntmps15
        go_wp2_with fail
        go_at_call 10
        generalize (w.alloc (.cells #[.string (bs d.name), .int .u8 d.op, .int .i64 d.evr.epoch, .string (bs d.evr.ver), .string (bs d.evr.rel)] 25)) = W at *
        generalize hn : w.heap.size = n at *
        obtain ⟨c0_0, c0_1, c0_2, c0_3, c0_4, l0, hB⟩ := id S0
        refine (NA.out _ hB).mono ?_
        rintro e1 w1 ⟨rfl, h⟩
        have S1 := keep_d1 S0 h
        clear S0 h c0_0 c0_1 c0_2 c0_3 c0_4 l0 hB
        obtain ⟨c0_0, c0_1, c0_2, c0_3, c0_4, l0, hB⟩ := id S1
        go_wp2_with fail
        go_at_call 33
        refine (OA.out _ hB).mono ?_
        rintro e2 w2 ⟨rfl, h⟩
        have S2 := keep_d1 S1 h
        clear c0_0 c0_1 c0_2 c0_3 c0_4 l0 hB
        clear S1 h
        obtain ⟨c0_0, c0_1, c0_2, c0_3, c0_4, l0, hB⟩ := id S2
        go_wp2_with fail
        all_goals
          go_ret
          exact ⟨ret_bool (by rw [HR.out]; simp [*]), by rw [hn]; exact hB⟩
      · rw [if_neg h3] at hr
        have h4 : (d.op == 0) = false := by simpa using h3
        cases h5 : fileB d.name with
        | true =>
          rw [h5] at FA hr
          obtain rfl : r = false := hr
          clear EA h1 h2 h5
          unfold Dp.val
          go_enter Tryd.func15, Tryd.ntmps15
          go_wp2_with fail
          go_at_call 10
          generalize (w.alloc (.cells #[.string (bs d.name), .int .u8 d.op, .int .i64 d.evr.epoch, .string (bs d.evr.ver), .string (bs d.evr.rel)] 25)) = W at *
          generalize hn : w.heap.size = n at *
          obtain ⟨c0_0, c0_1, c0_2, c0_3, c0_4, l0, hB⟩ := id S0
          refine (NA.out _ hB).mono ?_
          rintro e1 w1 ⟨rfl, h⟩
          have S1 := keep_d1 S0 h
          clear S0 h c0_0 c0_1 c0_2 c0_3 c0_4 l0 hB
          obtain ⟨c0_0, c0_1, c0_2, c0_3, c0_4, l0, hB⟩ := id S1
          go_wp2_with fail
          go_at_call 33
          refine (OA.out _ hB).mono ?_
          rintro e2 w2 ⟨rfl, h⟩
          have S2 := keep_d1 S1 h
          clear c0_0 c0_1 c0_2 c0_3 c0_4 l0 hB
          clear S1 h
          obtain ⟨c0_0, c0_1, c0_2, c0_3, c0_4, l0, hB⟩ := id S2
          go_wp2_with fail
          go_at_call 11
          refine (FA.out _ hB).mono ?_
          rintro e3 w3 ⟨rfl, h⟩
          have S3 := keep_d1 S2 h
          clear c0_0 c0_1 c0_2 c0_3 c0_4 l0 hB
          clear S2 h
          obtain ⟨c0_0, c0_1, c0_2, c0_3, c0_4, l0, hB⟩ := id S3
          go_wp2_with fail
          go_ret
          exact ⟨rfl, by rw [hn]; exact hB⟩
        | false =>
          rw [h5] at FA hr
          have hr2 : r = mayB d.evr true := hr
          rw [← hr2] at EA
          clear hr hr2 h1 h2 h5
          unfold Evr.val at EA
          unfold Dp.val
          go_enter Tryd.func15, Tryd.ntmps15
          go_wp2_with fail
          go_at_call 10
          generalize (w.alloc (.cells #[.string (bs d.name), .int .u8 d.op, .int .i64 d.evr.epoch, .string (bs d.evr.ver), .string (bs d.evr.rel)] 25)) = W at *
          generalize hn : w.heap.size = n at *
          obtain ⟨c0_0, c0_1, c0_2, c0_3, c0_4, l0, hB⟩ := id S0
          refine (NA.out _ hB).mono ?_
          rintro e1 w1 ⟨rfl, h⟩
          have S1 := keep_d1 S0 h
          clear S0 h c0_0 c0_1 c0_2 c0_3 c0_4 l0 hB
          obtain ⟨c0_0, c0_1, c0_2, c0_3, c0_4, l0, hB⟩ := id S1
          go_wp2_with fail
          go_at_call 33
          refine (OA.out _ hB).mono ?_
          rintro e2 w2 ⟨rfl, h⟩
          have S2 := keep_d1 S1 h
          clear c0_0 c0_1 c0_2 c0_3 c0_4 l0 hB
          clear S1 h
          obtain ⟨c0_0, c0_1, c0_2, c0_3, c0_4, l0, hB⟩ := id S2
          go_wp2_with fail
          go_at_call 11
          refine (FA.out _ hB).mono ?_
          rintro e3 w3 ⟨rfl, h⟩
          have S3 := keep_d1 S2 h
          clear c0_0 c0_1 c0_2 c0_3 c0_4 l0 hB
          clear S2 h
          obtain ⟨c0_0, c0_1, c0_2, c0_3, c0_4, l0, hB⟩ := id S3
          go_wp2_with fail
          go_at_call 12
          refine (EA.out _ hB).mono ?_
          rintro e4 w4 ⟨rfl, h⟩
          have S4 := keep_d1 S3 h
          clear c0_0 c0_1 c0_2 c0_3 c0_4 l0 hB
          clear S3 h
          obtain ⟨c0_0, c0_1, c0_2, c0_3, c0_4, l0, hB⟩ := id S4
          go_wp2_with fail
          go_ret
          exact ⟨rfl, by rw [hn]; exact hB⟩
end Go.Proofs.YtcpjignlhlcnpaaDoor
