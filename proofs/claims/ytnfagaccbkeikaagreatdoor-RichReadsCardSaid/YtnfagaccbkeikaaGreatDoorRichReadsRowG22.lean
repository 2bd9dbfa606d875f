/- DepWords -/
import Derived.Test.YtnfagaccbkeikaaGreatDoorRichReadsRowG21
import Derived.Test.YtnfagaccbkeikaaGreatDoorRichReadsRowG03
import Derived.Deep.RegionHeld3
/- Walks: words and texts of dependencies. -/



namespace Go.Proofs.YtnfagaccbkeikaaGreatDoor
open Go.RowKit Go.Shelf

def wordsL (d : Dp) : List ByteArray := if dmayB d = true then (dwords d).map bs else []
def codeD (d : Dp) : Int := if dmayB d = true then 0 else 4
/-- what Words hands back: the words, wherever they lie -/
def WordsPost (d : Dp) (w : World) (e : Ending) (w' : World) : Prop := ∃ A c, e = .returned (.tuple #[.slice A (wordsL d).length c, .int .i64 (codeD d)]) ∧ TR w' A (wordsL d) ∧ (wordsL d).length ≤ c ∧ Below w.heap.size w w'
theorem words_no {d : Dp} {w w' : World} (h : dmayB d = false) (hb : Below w.heap.size w w') : WordsPost d w (.returned (.tuple #[.slice none 0 0, .int .i64 4])) w' := by
  have e : wordsL d = [] := by unfold wordsL; rw [h, if_neg (by decide)]
  have e2 : codeD d = 4 := by unfold codeD; rw [h, if_neg (by decide)]
  refine ⟨none, 0, by rw [e, e2]; rfl, by rw [e]; exact TR.nil _ _, by rw [e]; exact Nat.le_refl _, hb⟩
theorem words_yes {d : Dp} {w W : World} {n c : Nat} {l : List Bytes} {e : TypeId} (h : dmayB d = true) (hl : dwords d = l) (hn : l.length = n) (hc : n ≤ c) (hb : Below w.heap.size w (W.alloc (.cells ((l.map bs).map Value.string).toArray e))) :
    WordsPost d w (.returned (.tuple #[.slice (some ⟨W.heap.size, 0, none⟩) n c, .int .i64 0])) (W.alloc (.cells ((l.map bs).map Value.string).toArray e)) := by
  have e1 : wordsL d = l.map bs := by unfold wordsL; rw [h, if_pos rfl, hl]
  have e2 : codeD d = 0 := by unfold codeD; rw [h, if_pos rfl]
  refine ⟨_, c, by rw [e1, e2, List.length_map, hn], by rw [e1]; exact TR.new W _ e, by rw [e1, List.length_map, hn]; exact hc, hb⟩
theorem showV_yes {e : Evr} (h : mayB e true = true) : showV e = .tuple #[.string (bs (showL e)), .int .i64 0] := by unfold showV; rw [h, if_pos rfl]
set_option maxRecDepth 100000 in
set_option maxHeartbeats 16000000 in
theorem dwords_any (d : Dp) (w : World) (hw : d.wf) (hI : DpIn w) : Calls Tryz.prog 170 #[d.val] w (WordsPost d w) := by
  have MA := Lib.hid (fun W (h : Below w.heap.size w W) => dmay_any d W hw (hI.below h))
  have TX := Lib.hid (fun W (h : Below w.heap.size w W) => text_any d.op W (hI.2.1.below h))
  have SH := Lib.hid (fun W (h : Below w.heap.size w W) => evShow_any d.evr W hw.2.2 (hI.1.below h))
  have S0 := new_d1 d w
  dsimp only at S0
  clear hI hw
  cases hm : dmayB d with
  | false =>
    rw [hm] at MA
    clear TX SH
    have HM := Lib.hid hm
    clear hm
    unfold Dp.val
    go_enter Tryz.func170, Tryz.ntmps170
    go_wp2_with fail
    go_at_call 99
    generalize (w.alloc (.cells #[.string (bs d.name), .int .u8 d.op, .int .i64 d.evr.epoch, .string (bs d.evr.ver), .string (bs d.evr.rel)] 26)) = W at *
    generalize hn : w.heap.size = n at *
    obtain ⟨c0_0, c0_1, c0_2, c0_3, c0_4, l0, hB⟩ := id S0
    refine (MA.out _ hB).mono ?_
    rintro e1 w1 ⟨rfl, h⟩
    have S1 := keep_d1 S0 h
    clear S0 h c0_0 c0_1 c0_2 c0_3 c0_4 l0 hB
    obtain ⟨c0_0, c0_1, c0_2, c0_3, c0_4, l0, hB⟩ := id S1
    go_wp2_with fail
    go_ret2
    exact words_no HM.out (by rw [hn]; exact hB)
  | true =>
    rw [hm] at MA
    have HM := Lib.hid hm
    by_cases h3 : d.op = 0
    · have h4 : (d.op == 0) = true := by simpa using h3
      have HD := Lib.hid (show dwords d = [d.name] from by unfold dwords; rw [if_pos h3])
      clear TX SH hm h3
      unfold Dp.val
      go_enter Tryz.func170, Tryz.ntmps170
      go_wp2_with fail
      go_at_call 99
      generalize (w.alloc (.cells #[.string (bs d.name), .int .u8 d.op, .int .i64 d.evr.epoch, .string (bs d.evr.ver), .string (bs d.evr.rel)] 26)) = W at *
      generalize hn : w.heap.size = n at *
      obtain ⟨c0_0, c0_1, c0_2, c0_3, c0_4, l0, hB⟩ := id S0
      refine (MA.out _ hB).mono ?_
      rintro e1 w1 ⟨rfl, h⟩
      have S1 := keep_d1 S0 h
      clear S0 h c0_0 c0_1 c0_2 c0_3 c0_4 l0 hB
      obtain ⟨c0_0, c0_1, c0_2, c0_3, c0_4, l0, hB⟩ := id S1
      go_wp2_with fail
      go_ret2
      exact words_yes HM.out HD.out rfl (by decide) (by rw [hn]; exact hB.alloc (by omega) _)
    · have h4 : (d.op == 0) = false := by simpa using h3
      have hev : mayB d.evr true = true := by
        rcases (dmay_iff.1 hm).2.2 with ⟨h, _⟩ | ⟨_, _, h⟩
        · exact absurd h h3
        · exact h
      rw [showV_yes hev] at SH
      have HD := Lib.hid (show dwords d = [d.name, opText d.op, showL d.evr] from by unfold dwords; rw [if_neg h3])
      clear hm h3 hev
      unfold Evr.val at SH
      unfold Dp.val
      go_enter Tryz.func170, Tryz.ntmps170
      go_wp2_with fail
      go_at_call 99
      generalize (w.alloc (.cells #[.string (bs d.name), .int .u8 d.op, .int .i64 d.evr.epoch, .string (bs d.evr.ver), .string (bs d.evr.rel)] 26)) = W at *
      generalize hn : w.heap.size = n at *
      obtain ⟨c0_0, c0_1, c0_2, c0_3, c0_4, l0, hB⟩ := id S0
      refine (MA.out _ hB).mono ?_
      rintro e1 w1 ⟨rfl, h⟩
      have S1 := keep_d1 S0 h
      clear S0 h c0_0 c0_1 c0_2 c0_3 c0_4 l0 hB
      obtain ⟨c0_0, c0_1, c0_2, c0_3, c0_4, l0, hB⟩ := id S1
      go_wp2_with fail
      go_at_call 193
      refine (SH.out _ hB).mono ?_
      rintro e2 w2 ⟨rfl, h⟩
      have S2 := keep_d1 S1 h
      clear c0_0 c0_1 c0_2 c0_3 c0_4 l0 hB
      clear S1 h
      obtain ⟨c0_0, c0_1, c0_2, c0_3, c0_4, l0, hB⟩ := id S2
      clear MA SH
      go_wp2_with fail
      go_region_held3 (fun W => W.cell? ⟨n, 0, none⟩ = some (.string (bs d.name)) ∧ W.cell? ⟨n, 1, none⟩ = some (.int .u8 d.op) ∧ W.cell? ⟨n, 2, none⟩ = some (.int .i64 d.evr.epoch) ∧ W.cell? ⟨n, 3, none⟩ = some (.string (bs d.evr.ver)) ∧ W.cell? ⟨n, 4, none⟩ = some (.string (bs d.evr.rel)) ∧ n < W.heap.size ∧ Below n w W) (first | exact keep_d1 (by assumption) hbb | exact keep_d1 (by assumption) ((Below.refl _ _).alloc (Nat.le_refl _) _) | exact ⟨c0_0, c0_1, c0_2, c0_3, c0_4, l0, hB.drew⟩ | go_keep) (first | (go_at_call 176; refine (TX.out _ (tail_d1 (by assumption))).mono ?_; rintro e w' ⟨rfl, hbb⟩))
      rename_i hh
      go_wp2_with fail
      go_ret2
      exact words_yes HM.out HD.out rfl (by decide) (by rw [hn]; exact tail_d1 hh)
end Go.Proofs.YtnfagaccbkeikaaGreatDoor
