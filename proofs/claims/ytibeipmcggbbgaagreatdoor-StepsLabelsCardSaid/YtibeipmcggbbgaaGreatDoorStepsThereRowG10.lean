/- DepMay, DepOfL, RichAtom, RichBracket -/
import Derived.Test.YtibeipmcggbbgaaGreatDoorStepsThereRowG07
import Derived.Test.YtibeipmcggbbgaaGreatDoorStepsThereRowG09
import Derived.Test.YtibeipmcggbbgaaGreatDoorStepsThereRowG05
import Derived.Test.YtibeipmcggbbgaaGreatDoorStepsThereRowG06
import Derived.Deep.RegionHeld3
import Derived.Deep.QuietTactic
import Derived.BigQuiet
import Derived.RegionTactic
import Derived.ChangeAlike
import Derived.Maps.AppendAt
import Derived.Deep.RegionLaw
set_option linter.unusedSimpArgs false
set_option linter.unusedVariables false
namespace Go.Proofs.YtibeipmcggbbgaaGreatDoor
section
/- Walks: which dependencies may be. -/





open Go.RowKit Go.Shelf

theorem keep_d1 {d : Dp} {n : Nat} {w W W' : World} (h : W.cell? ⟨n, 0, none⟩ = some (.string (bs d.name)) ∧ W.cell? ⟨n, 1, none⟩ = some (.int .u8 d.op) ∧ W.cell? ⟨n, 2, none⟩ = some (.int .i64 d.evr.epoch) ∧ W.cell? ⟨n, 3, none⟩ = some (.string (bs d.evr.ver)) ∧ W.cell? ⟨n, 4, none⟩ = some (.string (bs d.evr.rel)) ∧ n < W.heap.size ∧ Below n w W) (hb : Below W.heap.size W W') :
    W'.cell? ⟨n, 0, none⟩ = some (.string (bs d.name)) ∧ W'.cell? ⟨n, 1, none⟩ = some (.int .u8 d.op) ∧ W'.cell? ⟨n, 2, none⟩ = some (.int .i64 d.evr.epoch) ∧ W'.cell? ⟨n, 3, none⟩ = some (.string (bs d.evr.ver)) ∧ W'.cell? ⟨n, 4, none⟩ = some (.string (bs d.evr.rel)) ∧ n < W'.heap.size ∧ Below n w W' := by
  obtain ⟨c0_0, c0_1, c0_2, c0_3, c0_4, l0, hB⟩ := h
  have hB_le : n ≤ W.heap.size := by omega
  exact ⟨(hb.cell (p := ⟨n, 0, none⟩) l0).trans c0_0, (hb.cell (p := ⟨n, 1, none⟩) l0).trans c0_1, (hb.cell (p := ⟨n, 2, none⟩) l0).trans c0_2, (hb.cell (p := ⟨n, 3, none⟩) l0).trans c0_3, (hb.cell (p := ⟨n, 4, none⟩) l0).trans c0_4, Nat.lt_of_lt_of_le l0 hb.size, hB.trans (hb.mono hB_le)⟩
theorem new_d1 (d : Dp) (w : World) : let W := (w.alloc (.cells #[.string (bs d.name), .int .u8 d.op, .int .i64 d.evr.epoch, .string (bs d.evr.ver), .string (bs d.evr.rel)] 37)); let n := w.heap.size; W.cell? ⟨n, 0, none⟩ = some (.string (bs d.name)) ∧ W.cell? ⟨n, 1, none⟩ = some (.int .u8 d.op) ∧ W.cell? ⟨n, 2, none⟩ = some (.int .i64 d.evr.epoch) ∧ W.cell? ⟨n, 3, none⟩ = some (.string (bs d.evr.ver)) ∧ W.cell? ⟨n, 4, none⟩ = some (.string (bs d.evr.rel)) ∧ n < W.heap.size ∧ Below n w W := by
  refine ⟨?_, ?_, ?_, ?_, ?_, ?_, ?_⟩
  all_goals first | exact (World.cell?_alloc_at _ _ _ _ (by simp)).trans rfl | exact ((Below.refl _ _).alloc (by simp; try omega) _) | (simp; try omega)
set_option maxRecDepth 100000 in
set_option maxHeartbeats 16000000 in
theorem dmay_pk (d : Dp) (w : World) (hw : d.wf) (hI : PkIn w) : Calls Tryz.prog 75 #[d.val] w fun e w' => e = .returned (.bool (dmayB d)) ∧ Below w.heap.size w w' := by
  have hn64 : (bs d.name).size ≤ maxLen := by rw [bs_size]; exact hw.1
  have NA := Lib.hid (fun W (h : Below w.heap.size w W) => dname_pk (bs d.name) W hn64 (hI.below h))
  have FA := Lib.hid (fun W (h : Below w.heap.size w W) => dfile_pk (bs d.name) W hn64 (hI.below h))
  have OA := Lib.hid (fun W (h : Below w.heap.size w W) => may_any d.op W (hI.1.below h))
  have EA := Lib.hid (fun W (h : Below w.heap.size w W) => evMay_any d.evr true W hw.2.2)
  rw [bs_toList] at NA FA
  have S0 := new_d1 d w
  dsimp only at S0
  obtain ⟨r, hr⟩ : ∃ r, r = dmayB d := ⟨_, rfl⟩
  rw [← hr]
  unfold dmayB at hr
  clear hI hw hn64
  cases h1 : nameB d.name with
  | false =>
    rw [h1] at NA hr
    obtain rfl : r = false := hr
    clear FA OA EA h1
    unfold Dp.val
    go_enter Tryz.func75, Tryz.ntmps75
    go_wp2_with fail
    go_at_call 70
    generalize (w.alloc (.cells #[.string (bs d.name), .int .u8 d.op, .int .i64 d.evr.epoch, .string (bs d.evr.ver), .string (bs d.evr.rel)] 37)) = W at *
    generalize hn : w.heap.size = n at *
    obtain ⟨c0_0, c0_1, c0_2, c0_3, c0_4, l0, hB⟩ := id S0
    refine (NA.out _ hB).mono ?_
    rintro e1 w1 ⟨rfl, h⟩
    have S1 := keep_d1 S0 h
    clear S0 h c0_0 c0_1 c0_2 c0_3 c0_4 l0 hB
    obtain ⟨c0_0, c0_1, c0_2, c0_3, c0_4, l0, hB⟩ := id S1
    go_wp2_with fail
    go_ret
    exact ⟨rfl, by rw [hn]; exact hB⟩
  | true =>
    rw [h1] at NA hr
    cases h2 : opMay d.op with
    | false =>
      rw [h2] at OA hr
      obtain rfl : r = false := hr
      clear FA EA h1 h2
      unfold Dp.val
      go_enter Tryz.func75, Tryz.ntmps75
      go_wp2_with fail
      go_at_call 70
      generalize (w.alloc (.cells #[.string (bs d.name), .int .u8 d.op, .int .i64 d.evr.epoch, .string (bs d.evr.ver), .string (bs d.evr.rel)] 37)) = W at *
      generalize hn : w.heap.size = n at *
      obtain ⟨c0_0, c0_1, c0_2, c0_3, c0_4, l0, hB⟩ := id S0
      refine (NA.out _ hB).mono ?_
      rintro e1 w1 ⟨rfl, h⟩
      have S1 := keep_d1 S0 h
      clear S0 h c0_0 c0_1 c0_2 c0_3 c0_4 l0 hB
      obtain ⟨c0_0, c0_1, c0_2, c0_3, c0_4, l0, hB⟩ := id S1
      go_wp2_with fail
      go_at_call 105
      refine (OA.out _ hB).mono ?_
      rintro e2 w2 ⟨rfl, h⟩
      have S2 := keep_d1 S1 h
      clear c0_0 c0_1 c0_2 c0_3 c0_4 l0 hB
      clear S1 h
      obtain ⟨c0_0, c0_1, c0_2, c0_3, c0_4, l0, hB⟩ := id S2
      go_wp2_with fail
      go_ret
      exact ⟨rfl, by rw [hn]; exact hB⟩
    | true =>
      rw [h2] at OA hr
      by_cases h3 : d.op = 0
      · rw [if_pos h3] at hr
        clear FA EA h1 h2
        have h4 : (d.op == 0) = true := by simpa using h3
        have HR := Lib.hid hr
        unfold isZero at HR
        clear hr h3
        have q1 : (bs d.evr.ver).toList = d.evr.ver := bs_toList _
        have q2 : (bs d.evr.rel).toList = d.evr.rel := bs_toList _
        unfold Dp.val
        go_enter Tryz.func75, Tryz.ntmps75
        go_wp2_with fail
        go_at_call 70
        generalize (w.alloc (.cells #[.string (bs d.name), .int .u8 d.op, .int .i64 d.evr.epoch, .string (bs d.evr.ver), .string (bs d.evr.rel)] 37)) = W at *
        generalize hn : w.heap.size = n at *
        obtain ⟨c0_0, c0_1, c0_2, c0_3, c0_4, l0, hB⟩ := id S0
        refine (NA.out _ hB).mono ?_
        rintro e1 w1 ⟨rfl, h⟩
        have S1 := keep_d1 S0 h
        clear S0 h c0_0 c0_1 c0_2 c0_3 c0_4 l0 hB
        obtain ⟨c0_0, c0_1, c0_2, c0_3, c0_4, l0, hB⟩ := id S1
        go_wp2_with fail
        go_at_call 105
        refine (OA.out _ hB).mono ?_
        rintro e2 w2 ⟨rfl, h⟩
        have S2 := keep_d1 S1 h
        clear c0_0 c0_1 c0_2 c0_3 c0_4 l0 hB
        clear S1 h
        obtain ⟨c0_0, c0_1, c0_2, c0_3, c0_4, l0, hB⟩ := id S2
        go_wp2_with fail
        all_goals
          go_ret
          exact ⟨ret_bool (by rw [HR.out]; simp [*]), by rw [hn]; exact hB⟩
      · rw [if_neg h3] at hr
        have h4 : (d.op == 0) = false := by simpa using h3
        cases h5 : fileB d.name with
        | true =>
          rw [h5] at FA hr
          obtain rfl : r = false := hr
          clear EA h1 h2 h5
          unfold Dp.val
          go_enter Tryz.func75, Tryz.ntmps75
          go_wp2_with fail
          go_at_call 70
          generalize (w.alloc (.cells #[.string (bs d.name), .int .u8 d.op, .int .i64 d.evr.epoch, .string (bs d.evr.ver), .string (bs d.evr.rel)] 37)) = W at *
          generalize hn : w.heap.size = n at *
          obtain ⟨c0_0, c0_1, c0_2, c0_3, c0_4, l0, hB⟩ := id S0
          refine (NA.out _ hB).mono ?_
          rintro e1 w1 ⟨rfl, h⟩
          have S1 := keep_d1 S0 h
          clear S0 h c0_0 c0_1 c0_2 c0_3 c0_4 l0 hB
          obtain ⟨c0_0, c0_1, c0_2, c0_3, c0_4, l0, hB⟩ := id S1
          go_wp2_with fail
          go_at_call 105
          refine (OA.out _ hB).mono ?_
          rintro e2 w2 ⟨rfl, h⟩
          have S2 := keep_d1 S1 h
          clear c0_0 c0_1 c0_2 c0_3 c0_4 l0 hB
          clear S1 h
          obtain ⟨c0_0, c0_1, c0_2, c0_3, c0_4, l0, hB⟩ := id S2
          go_wp2_with fail
          go_at_call 71
          refine (FA.out _ hB).mono ?_
          rintro e3 w3 ⟨rfl, h⟩
          have S3 := keep_d1 S2 h
          clear c0_0 c0_1 c0_2 c0_3 c0_4 l0 hB
          clear S2 h
          obtain ⟨c0_0, c0_1, c0_2, c0_3, c0_4, l0, hB⟩ := id S3
          go_wp2_with fail
          go_ret
          exact ⟨rfl, by rw [hn]; exact hB⟩
        | false =>
          rw [h5] at FA hr
          have hr2 : r = mayB d.evr true := hr
          rw [← hr2] at EA
          clear hr hr2 h1 h2 h5
          unfold Evr.val at EA
          unfold Dp.val
          go_enter Tryz.func75, Tryz.ntmps75
          go_wp2_with fail
          go_at_call 70
          generalize (w.alloc (.cells #[.string (bs d.name), .int .u8 d.op, .int .i64 d.evr.epoch, .string (bs d.evr.ver), .string (bs d.evr.rel)] 37)) = W at *
          generalize hn : w.heap.size = n at *
          obtain ⟨c0_0, c0_1, c0_2, c0_3, c0_4, l0, hB⟩ := id S0
          refine (NA.out _ hB).mono ?_
          rintro e1 w1 ⟨rfl, h⟩
          have S1 := keep_d1 S0 h
          clear S0 h c0_0 c0_1 c0_2 c0_3 c0_4 l0 hB
          obtain ⟨c0_0, c0_1, c0_2, c0_3, c0_4, l0, hB⟩ := id S1
          go_wp2_with fail
          go_at_call 105
          refine (OA.out _ hB).mono ?_
          rintro e2 w2 ⟨rfl, h⟩
          have S2 := keep_d1 S1 h
          clear c0_0 c0_1 c0_2 c0_3 c0_4 l0 hB
          clear S1 h
          obtain ⟨c0_0, c0_1, c0_2, c0_3, c0_4, l0, hB⟩ := id S2
          go_wp2_with fail
          go_at_call 71
          refine (FA.out _ hB).mono ?_
          rintro e3 w3 ⟨rfl, h⟩
          have S3 := keep_d1 S2 h
          clear c0_0 c0_1 c0_2 c0_3 c0_4 l0 hB
          clear S2 h
          obtain ⟨c0_0, c0_1, c0_2, c0_3, c0_4, l0, hB⟩ := id S3
          go_wp2_with fail
          go_at_call 72
          refine (EA.out _ hB).mono ?_
          rintro e4 w4 ⟨rfl, h⟩
          have S4 := keep_d1 S3 h
          clear c0_0 c0_1 c0_2 c0_3 c0_4 l0 hB
          clear S3 h
          obtain ⟨c0_0, c0_1, c0_2, c0_3, c0_4, l0, hB⟩ := id S4
          go_wp2_with fail
          go_ret
          exact ⟨rfl, by rw [hn]; exact hB⟩
end
section
/- Walks: the dependency of words. -/



open Go.RowKit Go.Shelf
set_option linter.unusedVariables false

def ZV : Value := .tuple #[.agg #[.string ⟨#[]⟩, .int .u8 0, .int .i64 0, .string ⟨#[]⟩, .string ⟨#[]⟩], .int .i64 4]
end
section
/- Walks: a plain dependency is read out of words (rich.reader's plain). -/





open Go.RowKit Go.Shelf
set_option linter.unusedVariables false

theorem Box7.past {m : Nat} {a0 a1 a2 a3 a4 a5 a6 : Value} {W W' : World} (h : Box7 m a0 a1 a2 a3 a4 a5 a6 W) (hb : Below (m + 1) W W') : Box7 m a0 a1 a2 a3 a4 a5 a6 W' := by
  obtain ⟨⟨h0, h1, h2, h3, h4, h5, h6⟩, ⟨f0, f1, f2, f3, f4, f5, f6⟩, hl⟩ := h
  have hc : ∀ i, W'.cell? ⟨m, i, none⟩ = W.cell? ⟨m, i, none⟩ := fun i => hb.cell (p := ⟨m, i, none⟩) (Nat.lt_succ_self m)
  have hf : ∀ i, W'.frozen? ⟨m, i, none⟩ = W.frozen? ⟨m, i, none⟩ := fun i => hb.frozen (p := ⟨m, i, none⟩) (Nat.lt_succ_self m)
  exact ⟨⟨(hc 0).trans h0, (hc 1).trans h1, (hc 2).trans h2, (hc 3).trans h3, (hc 4).trans h4, (hc 5).trans h5, (hc 6).trans h6⟩, ⟨(hf 0).trans f0, (hf 1).trans f1, (hf 2).trans f2, (hf 3).trans f3, (hf 4).trans f4, (hf 5).trans f5, (hf 6).trans f6⟩, Nat.lt_of_lt_of_le hl hb.size⟩
theorem own_lit {α : Type} {enc : α → List Value} {size base : Nat} {e : TypeId} (w : World) (x : α) (cs : Array Value) (hcs : cs.toList = enc x) (hs : (enc x).length = size) (hb : base ≤ w.heap.size) :
    Own enc size base e (.slice (some ⟨w.heap.size, 0, none⟩) 1 1) [x] (w.alloc (.cells cs e)) := by
  have hcs2 : cs.size = size := by rw [← Array.length_toList, hcs, hs]
  refine ⟨by simp [hs], .inr ⟨w.heap.size, 1, cs, rfl, hb, World.alloc_heap_new w _, Nat.le_refl _, by decide, by rw [hcs2, Nat.one_mul], ?_⟩⟩
  rw [List.length_singleton, Nat.one_mul, List.take_of_length_le (by rw [Array.length_toList]; omega), hcs]
  simp
/-- what the end of plain comes to, the words being gathered -/
structure Gathered (w0 : World) (R e o : Nat) (ws : List Tok) (n : Nat) (j : Nat) (W : World) (v : Value) (wr : World) : Prop where
  but : ButR R W wr
  box : Box7 W.heap.size (.int .u8 0) (.string ⟨#[]⟩) (.int .u8 0) (.int .i64 0) (.string ⟨#[]⟩) (.string ⟨#[]⟩) (.slice none 0 0) wr
  own : Own encStr 1 (W.heap.size + 1) 9 v ((txt (ws.take (1 + j))).map bs) wr
  st : ∃ A c, St w0 R e (ws.drop (1 + j)) (n + 1) o A c wr
theorem Gathered.same {w0 : World} {R e o n j : Nat} {ws : List Tok} {W wr w' : World} {v : Value} (h : Gathered w0 R e o ws n j W v wr) (hd : ws.drop (1 + j) = []) (hb : ButR R wr w') (hS : ∃ A c, St w0 R e [] (n + 1) o A c w') (hR : R < W.heap.size) : Gathered w0 R e o ws n (j + 1) W v w' := by
  have hl := List.drop_eq_nil_iff.1 hd
  refine ⟨h.but.trans hb, h.box.butR hb (by omega), ?_, ?_⟩
  · rw [List.take_of_length_le (by omega)]
    have := h.own
    rw [List.take_of_length_le hl] at this
    exact this.butR hb (by omega)
  · rw [List.drop_eq_nil_iff.2 (by omega)]; exact hS
theorem Gathered.more {w0 : World} {R e o n j : Nat} {ws : List Tok} {W wr w5 w6 : World} {v v1 : Value} {y : Tok} {r : List Tok} {LL : List ByteArray} {cs : Obj} (h : Gathered w0 R e o ws n j W v wr) (hd : ws.drop (1 + j) = y :: r) (hb : ButR R wr w5) (hS : ∃ A c, St w0 R e r (n + 1) o A c w5) (hR : R < W.heap.size)
    (hLL : LL = List.map bs (txt (List.take (1 + j) ws))) (ho : w6.ownsRow (W.heap.size + 1) 9 1 v1 (LL.length + 1) (LL.flatMap encStr ++ [.string (bs y.2)])) (hg : (w5.alloc cs).grownBy w6 v.ownBlock) : Gathered w0 R e o ws n (j + 1) W v1 w6 := by
  have hl : 1 + j < ws.length := by
    have := congrArg List.length hd
    simp only [List.length_drop, List.length_cons] at this
    omega
  have he := List.drop_eq_getElem_cons hl
  rw [hd] at he
  obtain ⟨h1, h2⟩ := List.cons.inj he
  have ht : List.map bs (txt (ws.take (1 + (j + 1)))) = LL ++ [bs y.2] := by
    rw [hLL, show 1 + (j + 1) = 1 + j + 1 by omega, take_snoc _ _ hl, ← h1]
    simp [txt]
  have hm := h.box.2.2
  have hz := hb.size
  have hr : ∀ k, v.ownBlock = some k → W.heap.size + 1 ≤ k := fun k e => (World.ownsRow.lt h.own k e).1
  have hG : ∀ {B : Nat}, B ≤ W.heap.size + 1 → Below B (w5.alloc cs) w6 := fun hB => (Below.refl _ _).grown hg (by simp; omega) (fun k e => Nat.le_trans hB (hr k e))
  refine ⟨((h.but.trans hb).alloc _).grown hg (fun k e => Nat.le_of_succ_le (hr k e)), (((h.box.butR hb (by omega)).butR ((ButR.refl R _).alloc cs) (by omega))).past (hG (Nat.le_refl _)), ?_, ?_⟩
  · rw [ht]; exact Own.snoc ho
  · obtain ⟨A, c, hS⟩ := hS
    rw [show ws.drop (1 + (j + 1)) = r by rw [show 1 + (j + 1) = 1 + j + 1 by omega]; exact h2.symm]
    exact ⟨A, c, (hS.then ((Below.refl _ _).alloc (Nat.le_refl _) cs)).past (hG (by omega))⟩
end
section
/- Walks: all that is no plain dependency is read (rich.reader's bracket). -/




open Go.RowKit Go.Shelf
set_option linter.unusedVariables false

theorem encR_len (t : RV) : (encR t).length = 7 := rfl
theorem encR_one (t : RV) : ∀ u ∈ encR t, u.oneCell' = true := by
  intro u hu
  simp only [encR, List.mem_cons, List.not_mem_nil, or_false] at hu
  rcases hu with rfl | rfl | rfl | rfl | rfl | rfl | rfl <;> rfl
def zBox (m : Nat) (W : World) : Prop := Box7 m (.int .u8 0) (.string ⟨#[]⟩) (.int .u8 0) (.int .i64 0) (.string ⟨#[]⟩) (.string ⟨#[]⟩) (.slice none 0 0) W
/-- where bracket stands: what is open, what was gathered -/
structure Br (w0 : World) (R e o m m2 : Nat) (W : World) (k : Int) (l : List RV) (v : Value) (ws : List Tok) (n : Nat) (wr : World) : Prop where
  but : ButR R W wr
  res : zBox m wr
  out : Box7 m2 (.int .u8 k) (.string ⟨#[]⟩) (.int .u8 0) (.int .i64 0) (.string ⟨#[]⟩) (.string ⟨#[]⟩) v wr
  own : Own encR 7 (m + 1) 39 v l wr
  away : v.ownBlock ≠ some m2
  tr : ∀ t ∈ l, TQ (fun b => m + 1 ≤ b ∧ b < wr.heap.size ∧ v.ownBlock ≠ some b ∧ b ≠ m2) wr t
  st : ∃ A c, St w0 R e ws n (o + 1) A c wr
  lt : R < m ∧ m < m2 ∧ m = W.heap.size
section
variable {w0 W wr w' : World} {R e o m m2 n n' : Nat} {k k' : Int} {l : List RV} {v : Value} {ws ws' : List Tok}
theorem Br.call (h : Br w0 R e o m m2 W k l v ws n wr) (hb : ButR R wr w') (hS : ∃ A c, St w0 R e ws' n' (o + 1) A c w') : Br w0 R e o m m2 W k l v ws' n' w' where
  but := h.but.trans hb
  res := h.res.butR hb (by have := h.lt; omega)
  out := h.out.butR hb (by have := h.lt; omega)
  own := h.own.butR hb (by have := h.lt; omega)
  away := h.away
  tr := fun t ht => (h.tr t ht).keep (fun b hq => ⟨hq.1, Nat.lt_of_lt_of_le hq.2.1 hb.size, hq.2.2⟩) fun b hq => hb.block b hq.2.1 (by have := h.lt; have := hq.1; omega)
  st := hS
  lt := h.lt
theorem box7_set0 {a0 a1 a2 a3 a4 a5 a6 : Value} (h : Box7 m a0 a1 a2 a3 a4 a5 a6 W) (u : Value) : Box7 m u a1 a2 a3 a4 a5 a6 (W.setCell ⟨m, 0, none⟩ u) := by
  obtain ⟨⟨h0, h1, h2, h3, h4, h5, h6⟩, ⟨f0, f1, f2, f3, f4, f5, f6⟩, hl⟩ := h
  unfold Box7
  refine ⟨⟨?_, ?_, ?_, ?_, ?_, ?_, ?_⟩, ⟨?_, ?_, ?_, ?_, ?_, ?_, ?_⟩, by simpa [World.setCell] using hl⟩
  all_goals simp [go_sem, h0, h1, h2, h3, h4, h5, h6, f0, f1, f2, f3, f4, f5, f6]
theorem box7_set6 {a0 a1 a2 a3 a4 a5 a6 : Value} (h : Box7 m a0 a1 a2 a3 a4 a5 a6 W) (u : Value) : Box7 m a0 a1 a2 a3 a4 a5 u (W.setCell ⟨m, 6, none⟩ u) := by
  obtain ⟨⟨h0, h1, h2, h3, h4, h5, h6⟩, ⟨f0, f1, f2, f3, f4, f5, f6⟩, hl⟩ := h
  unfold Box7
  refine ⟨⟨?_, ?_, ?_, ?_, ?_, ?_, ?_⟩, ⟨?_, ?_, ?_, ?_, ?_, ?_, ?_⟩, by simpa [World.setCell] using hl⟩
  all_goals simp [go_sem, h0, h1, h2, h3, h4, h5, h6, f0, f1, f2, f3, f4, f5, f6]
/-- what a store into the block m2 leaves -/
theorem Br.setOut (h : Br w0 R e o m m2 W k l v ws n wr) (i : Nat) (u : Value) : ButR R W (wr.setCell ⟨m2, i, none⟩ u) ∧ zBox m (wr.setCell ⟨m2, i, none⟩ u) ∧ Own encR 7 (m + 1) 39 v l (wr.setCell ⟨m2, i, none⟩ u) ∧
    (∀ t ∈ l, TQ (fun b => m + 1 ≤ b ∧ b < (wr.setCell ⟨m2, i, none⟩ u).heap.size ∧ v.ownBlock ≠ some b ∧ b ≠ m2) (wr.setCell ⟨m2, i, none⟩ u) t) ∧ ∃ A c, St w0 R e ws n (o + 1) A c (wr.setCell ⟨m2, i, none⟩ u) := by
  have hlt := h.lt
  obtain ⟨A, c, hS⟩ := h.st
  refine ⟨h.but.setNew (p := ⟨m2, i, none⟩) (by show W.heap.size ≤ m2; omega) u, h.res.past ((Below.refl _ _).setCell (p := ⟨m2, i, none⟩) (by show m + 1 ≤ m2; omega) u), ownsRow_setCell_other h.own (a := ⟨m2, i, none⟩) h.away u, fun t ht => (h.tr t ht).keep (fun b hq => ⟨hq.1, by simpa [World.setCell] using hq.2.1, hq.2.2⟩) fun b hq => Below.heap_setCell _ _ _ _ hq.2.2.2, A, c, hS.past ((Below.refl _ _).setCell (p := ⟨m2, i, none⟩) (by show R + 1 ≤ m2; omega) u)⟩
theorem Br.kind (h : Br w0 R e o m m2 W k l v ws n wr) (k' : Int) : Br w0 R e o m m2 W k' l v ws n (wr.setCell ⟨m2, 0, none⟩ (.int .u8 k')) := by
  obtain ⟨h1, h2, h3, h4, h5⟩ := h.setOut 0 (.int .u8 k')
  exact ⟨h1, h2, box7_set0 h.out _, h3, h.away, h4, h5, h.lt⟩
/-- a part more was read: what the row and the struct are then -/
theorem Br.arg {rv : RV} {w6 : World} {v' : Value} {cs : Obj} (h : Br w0 R e o m m2 W k l v ws n wr) (hT : TQ (fun b => w'.heap.size ≤ b ∧ b < wr.heap.size) wr rv) (hw : m2 < w'.heap.size) (hv : ∀ b, v.ownBlock = some b → b < w'.heap.size) (ho : w6.ownsRow (m + 1) 39 7 v' (l.length + 1) (l.flatMap encR ++ encR rv)) (hg : (wr.alloc cs).grownBy w6 v.ownBlock) (hv' : v'.ownBlock = v.ownBlock ∨ v'.ownBlock = some (wr.alloc cs).heap.size) :
    Br w0 R e o m m2 W k (l ++ [rv]) v' ws n (w6.setCell ⟨m2, 6, none⟩ v') := by
  have hlt := h.lt
  have hm2 := h.out.2.2
  have hr : ∀ q, v.ownBlock = some q → m + 1 ≤ q := fun q e => (World.ownsRow.lt h.own q e).1
  have hsz : wr.heap.size + 1 = (wr.alloc cs).heap.size := by simp
  have hG : ∀ {B : Nat}, B ≤ m + 1 → Below B (wr.alloc cs) w6 := fun hB => (Below.refl _ _).grown hg (by omega) (fun k e => Nat.le_trans hB (hr k e))
  have hblk : ∀ b, b < wr.heap.size → v.ownBlock ≠ some b → w6.heap[b]? = wr.heap[b]? := fun b hb hne => (hg.block b (by omega) (fun e => hne e.symm)).trans (Below.heap_alloc _ _ _ hb)
  have haway : v'.ownBlock ≠ some m2 := by
    rcases hv' with e | e
    · rw [e]; exact h.away
    · rw [e]; simp; omega
  have hm2b : w6.heap[m2]? = wr.heap[m2]? := hblk m2 hm2 h.away
  have hz6 := hg.size
  have hQ : ∀ b, b < wr.heap.size → v.ownBlock ≠ some b → v'.ownBlock ≠ some b := fun b hb hne => by
    rcases hv' with e | e
    · rw [e]; exact hne
    · rw [e]; simp; omega
  obtain ⟨A, c, hS⟩ := h.st
  have hout : Box7 m2 (.int .u8 k) (.string ⟨#[]⟩) (.int .u8 0) (.int .i64 0) (.string ⟨#[]⟩) (.string ⟨#[]⟩) v w6 := by
    have hc : ∀ i, w6.cell? ⟨m2, i, none⟩ = wr.cell? ⟨m2, i, none⟩ := fun i => World.cell?_of_block (w := wr) hm2b
    have hf : ∀ i, w6.frozen? ⟨m2, i, none⟩ = wr.frozen? ⟨m2, i, none⟩ := fun i => World.frozen?_of_block (w := wr) hm2b
    obtain ⟨⟨h0, h1, h2, h3, h4, h5, h6⟩, ⟨f0, f1, f2, f3, f4, f5, f6⟩, hl⟩ := h.out
    exact ⟨⟨(hc 0).trans h0, (hc 1).trans h1, (hc 2).trans h2, (hc 3).trans h3, (hc 4).trans h4, (hc 5).trans h5, (hc 6).trans h6⟩, ⟨(hf 0).trans f0, (hf 1).trans f1, (hf 2).trans f2, (hf 3).trans f3, (hf 4).trans f4, (hf 5).trans f5, (hf 6).trans f6⟩, by omega⟩
  have hset : ∀ b, b ≠ m2 → (w6.setCell ⟨m2, 6, none⟩ v').heap[b]? = w6.heap[b]? := fun b hb => Below.heap_setCell _ _ _ _ hb
  have hzs : (w6.setCell ⟨m2, 6, none⟩ v').heap.size = w6.heap.size := by simp [World.setCell]
  refine ⟨((h.but.alloc _).grown hg (fun q e => by have := hr q e; omega)).setNew (p := ⟨m2, 6, none⟩) (by show W.heap.size ≤ m2; omega) _, ?_, box7_set6 hout v', ?_, haway, ?_, ⟨A, c, ?_⟩, hlt⟩
  · exact ((h.res.butR ((ButR.refl R _).alloc cs) (by omega)).past (hG (Nat.le_refl _))).past ((Below.refl _ _).setCell (p := ⟨m2, 6, none⟩) (by show m + 1 ≤ m2; omega) v')
  · exact ownsRow_setCell_other (Own.snoc ho) (a := ⟨m2, 6, none⟩) haway v'
  · intro t ht
    rcases List.mem_append.1 ht with ht | ht
    · exact (h.tr t ht).keep (fun b hq => ⟨hq.1, by omega, hQ b hq.2.1 hq.2.2.1, hq.2.2.2⟩) fun b hq => (hset b hq.2.2.2).trans (hblk b hq.2.1 hq.2.2.1)
    · simp at ht; subst ht
      exact hT.keep (fun b hq => ⟨by omega, by omega, hQ b hq.2 (fun e => by have := hv b e; omega), by omega⟩) fun b hq => (hset b (by omega)).trans (hblk b hq.2 (fun e => by have := hv b e; omega))
  · exact ((hS.then ((Below.refl _ _).alloc (Nat.le_refl _) cs)).past (hG (by omega))).past ((Below.refl _ _).setCell (p := ⟨m2, 6, none⟩) (by show R + 1 ≤ m2; omega) v')
theorem Br.held {w6 : World} {cs : Obj} (h : Br w0 R e o m m2 W k l v ws n wr) (hg : (wr.alloc cs).grownBy w6 v.ownBlock) : w6.cell? ⟨m2, 6, none⟩ = some v ∧ w6.frozen? ⟨m2, 6, none⟩ = false ∧ m2 < w6.heap.size := by
  have hm2 := h.out.2.2
  have hb : w6.heap[m2]? = wr.heap[m2]? := (hg.block m2 (by simp; omega) (fun e => h.away e.symm)).trans (Below.heap_alloc _ _ _ hm2)
  have hz := hg.size
  refine ⟨(World.cell?_of_block (w := wr) (a := ⟨m2, 6, none⟩) hb).trans h.out.1.2.2.2.2.2.2, (World.frozen?_of_block (w := wr) (a := ⟨m2, 6, none⟩) hb).trans h.out.2.1.2.2.2.2.2.2, by simp at hz; omega⟩
theorem Br.node {A : Option Addr} {N c : Nat} (h : Br w0 R e o m m2 W k l (.slice A N c) ws n wr) : N = l.length ∧ TQ (fun b => m + 1 ≤ b ∧ b < wr.heap.size) wr (.node k zeroT A c l) := by
  obtain ⟨A', c', hv, hr⟩ := h.own.rd encR_len
  cases hv
  refine ⟨rfl, .mk ⟨Nat.zero_le _, rfl, rfl, Nat.zero_le _, Nat.zero_le _⟩ hr.1 hr.2.1 (fun k hk => ?_) fun t ht => (h.tr t ht).keep (fun b hq => ⟨hq.1, hq.2.1⟩) fun _ _ => rfl⟩
  obtain ⟨b, off, e', hb, hc⟩ := hr.2.2 k hk
  have e2 : A = some ⟨b, off, none⟩ := e'
  exact ⟨b, off, e', ⟨(World.ownsRow.lt h.own b (by rw [e2]; rfl)).1, hb⟩, hc⟩
theorem Br.start {w2 w3 : World} {rv : RV} (B3 : ButR R W w3) (X3 : zBox W.heap.size w3) (hT : TQ (fun b => w2.heap.size ≤ b ∧ b < w3.heap.size) w3 rv) (hz : W.heap.size + 1 ≤ w2.heap.size) (h23 : w2.heap.size ≤ w3.heap.size) (S3 : ∃ A c, St w0 R e ws n (o + 1) A c w3) (hR : R < W.heap.size) :
    Br w0 R e o W.heap.size (w3.heap.size + 1) W 0 [rv] (.slice (some ⟨w3.heap.size, 0, none⟩) 1 1) ws n ((w3.alloc (.cells #[.int .u8 rv.kind, .string (bs rv.dep.name), .int .u8 rv.dep.op, .int .i64 rv.dep.evr.epoch, .string (bs rv.dep.evr.ver), .string (bs rv.dep.evr.rel), .slice rv.addr rv.args.length rv.cap] 39)).alloc (.cells #[.int .u8 0, .string ⟨#[]⟩, .int .u8 0, .int .i64 0, .string ⟨#[]⟩, .string ⟨#[]⟩, .slice (some ⟨w3.heap.size, 0, none⟩) 1 1] 39)) := by
  obtain ⟨A, c, hS⟩ := S3
  have hb : ∀ {B : Nat}, B ≤ w3.heap.size → Below B w3 ((w3.alloc (.cells #[.int .u8 rv.kind, .string (bs rv.dep.name), .int .u8 rv.dep.op, .int .i64 rv.dep.evr.epoch, .string (bs rv.dep.evr.ver), .string (bs rv.dep.evr.rel), .slice rv.addr rv.args.length rv.cap] 39)).alloc (.cells #[.int .u8 0, .string ⟨#[]⟩, .int .u8 0, .int .i64 0, .string ⟨#[]⟩, .string ⟨#[]⟩, .slice (some ⟨w3.heap.size, 0, none⟩) 1 1] 39)) := fun hB => ((Below.refl _ _).alloc hB _).alloc (by simp; omega) _
  refine ⟨(B3.alloc _).alloc _, X3.past (hb (by omega)), ?_, (own_lit w3 rv _ rfl rfl (by omega)).alloc _, by simp [Value.ownBlock], ?_, ⟨A, c, hS.then (hb (Nat.le_refl _))⟩, by omega⟩
  · have := Box7.new (w3.alloc (.cells #[.int .u8 rv.kind, .string (bs rv.dep.name), .int .u8 rv.dep.op, .int .i64 rv.dep.evr.epoch, .string (bs rv.dep.evr.ver), .string (bs rv.dep.evr.rel), .slice rv.addr rv.args.length rv.cap] 39)) (.int .u8 0) (.string ⟨#[]⟩) (.int .u8 0) (.int .i64 0) (.string ⟨#[]⟩) (.string ⟨#[]⟩) (.slice (some ⟨w3.heap.size, 0, none⟩) 1 1) 39
    rw [show (w3.alloc (.cells #[.int .u8 rv.kind, .string (bs rv.dep.name), .int .u8 rv.dep.op, .int .i64 rv.dep.evr.epoch, .string (bs rv.dep.evr.ver), .string (bs rv.dep.evr.rel), .slice rv.addr rv.args.length rv.cap] 39)).heap.size = w3.heap.size + 1 by simp] at this
    exact this
  · intro t ht
    simp at ht; subst ht
    refine hT.keep (fun b hq => ⟨by omega, by simp; omega, ?_, by omega⟩) fun b hq => (hb (Nat.le_refl _)).block b hq.2
    intro hh
    have : some w3.heap.size = some b := hh
    simp at this
    omega
end
end
end Go.Proofs.YtibeipmcggbbgaaGreatDoor
