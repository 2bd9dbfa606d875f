/- EvShow -/
import Derived.Test.YtnfagaccbkeikaaGreatDoorRichReadsRowG05
import Derived.Test.YtnfagaccbkeikaaGreatDoorRichReadsRowG02
/- Walks: EVRs by the program: which may be, their texts, the EVR of a text. -/


namespace Go.Proofs.YtnfagaccbkeikaaGreatDoor
open Go.RowKit Go.Shelf

set_option maxRecDepth 100000 in
set_option maxHeartbeats 8000000 in
theorem evMay_any (e : Evr) (dep : Bool) (w : World) (hw : e.wf) : Calls Tryz.prog 96 #[e.val, .bool dep] w fun r w' => r = .returned (.bool (mayB e dep)) ∧ Below w.heap.size w w' := by
  have WV := Lib.hid (fun W => word_any (bs e.ver) W (by rw [bs_size]; exact hw.2.1))
  have WR := Lib.hid (fun W => word_any (bs e.rel) W (by rw [bs_size]; exact hw.2.2))
  obtain ⟨r, hr⟩ : ∃ r, r = mayB e dep := ⟨_, rfl⟩
  rw [← hr]
  unfold mayB at hr
  rw [bs_toList] at WV WR
  have hx : (bs e.rel).toList = e.rel := bs_toList _
  clear hw
  unfold Evr.val
  obtain ⟨p, v, l⟩ := e
  dsimp only at *
  by_cases h0 : 0 ≤ p
  · by_cases h1 : p ≤ 2147483647
    · rw [decide_eq_true h0, decide_eq_true h1] at hr
      generalize wordB v = x at *
      generalize wordB l = y at *
      cases x with
      | false =>
        obtain rfl : r = false := hr
        clear hx
        go_enter Tryz.func96, Tryz.ntmps96
        go_wp2_with (go_at_call 141; refine (WV.out _).mono ?_; rintro e' w' ⟨rfl, rfl⟩)
        go_ret
        exact ⟨rfl, (Below.refl _ _).alloc (Nat.le_refl _) _⟩
      | true =>
        cases y with
        | true =>
          obtain rfl : r = true := hr
          clear hx
          go_enter Tryz.func96, Tryz.ntmps96
          go_wp2_with ((first | (go_at_call 141; ((with_reducible refine (WV.out _).mono ?_); rintro e' w' ⟨rfl, rfl⟩)) | (go_at_call 141; refine (WR.out _).mono ?_; rintro e' w' ⟨rfl, rfl⟩)))
          go_ret
          exact ⟨rfl, (Below.refl _ _).alloc (Nat.le_refl _) _⟩
        | false =>
          cases dep with
          | false =>
            obtain rfl : r = false := hr
            clear hx
            go_enter Tryz.func96, Tryz.ntmps96
            go_wp2_with ((first | (go_at_call 141; ((with_reducible refine (WV.out _).mono ?_); rintro e' w' ⟨rfl, rfl⟩)) | (go_at_call 141; refine (WR.out _).mono ?_; rintro e' w' ⟨rfl, rfl⟩)))
            go_ret
            exact ⟨rfl, (Below.refl _ _).alloc (Nat.le_refl _) _⟩
          | true =>
            by_cases hl : l = []
            · have f1 : (bs l).toList = [] := by rw [hx, hl]
              obtain rfl : r = true := by rw [hr, hl]; rfl
              clear hx hl hr
              go_enter Tryz.func96, Tryz.ntmps96
              go_wp2_with ((first | (go_at_call 141; ((with_reducible refine (WV.out _).mono ?_); rintro e' w' ⟨rfl, rfl⟩)) | (go_at_call 141; refine (WR.out _).mono ?_; rintro e' w' ⟨rfl, rfl⟩)))
              go_ret
              exact ⟨rfl, (Below.refl _ _).alloc (Nat.le_refl _) _⟩
            · have f1 : ¬ (bs l).toList = [] := by rw [hx]; exact hl
              have f2 : (bs l).toList.isEmpty = false := by rw [hx]; simpa using hl
              obtain rfl : r = false := by rw [hr]; simp [hl]
              clear hx hl hr
              go_enter Tryz.func96, Tryz.ntmps96
              go_wp2_with ((first | (go_at_call 141; ((with_reducible refine (WV.out _).mono ?_); rintro e' w' ⟨rfl, rfl⟩)) | (go_at_call 141; refine (WR.out _).mono ?_; rintro e' w' ⟨rfl, rfl⟩)))
              go_ret
              exact ⟨rfl, (Below.refl _ _).alloc (Nat.le_refl _) _⟩
    · obtain rfl : r = false := by rw [hr, decide_eq_false h1]; simp
      have h2 : 2147483647 < p := by omega
      clear hx hr
      go_enter Tryz.func96, Tryz.ntmps96
      go_wp2_with fail
      go_ret
      exact ⟨rfl, (Below.refl _ _).alloc (Nat.le_refl _) _⟩
  · obtain rfl : r = false := by rw [hr, decide_eq_false h0]; rfl
    have h2 : p < 0 := by omega
    clear hx hr
    go_enter Tryz.func96, Tryz.ntmps96
    go_wp2_with fail
    go_ret
    exact ⟨rfl, (Below.refl _ _).alloc (Nat.le_refl _) _⟩
theorem bs_join (a b : Bytes) : bs a ++ bs b = bs (a ++ b) := by
  apply toList_inj
  rw [toList_append, bs_toList, bs_toList, bs_toList]
def showV (e : Evr) : Value := if mayB e true = true then .tuple #[.string (bs (showL e)), .int .i64 0] else .tuple #[.string ⟨#[]⟩, .int .i64 4]
theorem may_parts {e : Evr} (h : mayB e true = true) : 0 ≤ e.epoch ∧ e.epoch ≤ 2147483647 ∧ e.ver.length ≤ 64 ∧ e.rel.length ≤ 64 := by
  obtain ⟨h0, h1, hv, hr⟩ := may_iff.1 h
  refine ⟨h0, h1, (word_iff.1 hv).2.1, ?_⟩
  rcases hr with hr | hr
  · exact (word_iff.1 hr).2.1
  · rw [hr]; simp
theorem itoa_len {p : Int} (h0 : 0 ≤ p) (h1 : p ≤ 2147483647) : (Lib.itoa p).length ≤ 10 := by
  obtain ⟨u, hu⟩ := Int.eq_ofNat_of_zero_le h0
  rw [hu]
  unfold Lib.itoa
  rw [if_neg (by omega)]
  exact dec_len 9 _ (by simp; omega)
set_option maxRecDepth 100000 in
set_option maxHeartbeats 8000000 in
theorem evShow_any (e : Evr) (w : World) (hw : e.wf) (hI : EvIn w) : Calls Tryz.prog 193 #[e.val] w fun r w' => r = .returned (showV e) ∧ Below w.heap.size w w' := by
  have MA := Lib.hid (fun W => evMay_any e true W hw)
  cases hm : mayB e true with
  | false =>
    rw [hm] at MA
    have hv : showV e = .tuple #[.string ⟨#[]⟩, .int .i64 4] := by unfold showV; rw [hm, if_neg (by decide)]
    rw [hv]
    clear hv hm hw
    unfold Evr.val at *
    go_enter Tryz.func193, Tryz.ntmps193
    go_wp2_with (go_at_call 96; refine (MA.out _).mono ?_; rintro e' w' ⟨rfl, hb⟩)
    go_ret2
    exact ⟨rfl, ((Below.refl _ _).alloc (Nat.le_refl _) _).trans (hb.mono (by simp))⟩
  | true =>
    rw [hm] at MA
    obtain ⟨p0, p1, p2, p3⟩ := may_parts hm
    have hv : showV e = .tuple #[.string (bs (showL e)), .int .i64 0] := by unfold showV; rw [hm, if_pos rfl]
    rw [hv]
    obtain ⟨S, hS⟩ : ∃ S, S = bs (showL e) := ⟨_, rfl⟩
    rw [← hS]
    have IT := Lib.hid (fun W (h : Below w.heap.size w W) => itoa_any e.epoch W (hI.below h) p0 p1)
    clear hI
    obtain ⟨p, v, l⟩ := e
    dsimp only at *
    have z1 : (bs (Lib.itoa p)).size ≤ 10 := by rw [bs_size]; exact itoa_len p0 p1
    have z2 : (bs v).size ≤ 64 := by rw [bs_size]; exact p2
    have z3 : (bs l).size ≤ 64 := by rw [bs_size]; exact p3
    unfold showL at hS
    dsimp only at hS
    unfold relL at hS
    have hx : (bs l).toList = l := bs_toList _
    clear hv hm hw p2 p3
    unfold Evr.val at *
    dsimp only at *
    have hB0 : Below w.heap.size w (w.alloc (.cells #[.int .i64 p, .string (bs v), .string (bs l)] 24)) := (Below.refl _ _).alloc (Nat.le_refl _) _
    by_cases c0 : 0 < p
    · rw [if_pos c0] at hS
      by_cases c1 : l = []
      · rw [if_pos c1, List.append_nil] at hS
        have f1 : (bs l).toList = [] := by rw [hx, c1]
        have HS := Lib.hid (show S = bs (Lib.itoa p) ++ bs [58] ++ bs v from by rw [hS]; (repeat rw [bs_join]); try exact congrArg bs (by simp))
        clear hx c1 hS
        go_enter Tryz.func193, Tryz.ntmps193
        go_wp2_with fail
        go_at_call 96
        refine (MA.out _).mono ?_
        rintro e1 w1 ⟨rfl, h1⟩
        obtain ⟨hc, hf⟩ := bcell h1
        have hz : w.heap.size < w1.heap.size := by have := h1.size; simp at this; omega
        go_wp2_with fail
        go_at_call 204
        refine (IT.out _ (hB0.trans (h1.mono (by simp)))).mono ?_
        rintro e2 w2 ⟨rfl, h2⟩
        obtain ⟨hc2, hf2⟩ := bcell h2
        have hz2 : w1.heap.size ≤ w2.heap.size := h2.size
        go_wp2_with fail
        go_ret2
        exact ⟨by rw [HS.out]; rfl, hB0.trans ((h1.trans (h2.mono h1.size)).mono (by simp))⟩
      · rw [if_neg c1] at hS
        have f1 : ¬ (bs l).toList = [] := by rw [hx]; exact c1
        have f2 : (bs l).toList.isEmpty = false := by rw [hx]; simpa using c1
        have HS := Lib.hid (show S = bs (Lib.itoa p) ++ bs [58] ++ bs v ++ (bs [45] ++ bs l) from by rw [hS]; (repeat rw [bs_join]); try exact congrArg bs (by simp))
        clear hx c1 hS
        go_enter Tryz.func193, Tryz.ntmps193
        go_wp2_with fail
        go_at_call 96
        refine (MA.out _).mono ?_
        rintro e1 w1 ⟨rfl, h1⟩
        obtain ⟨hc, hf⟩ := bcell h1
        have hz : w.heap.size < w1.heap.size := by have := h1.size; simp at this; omega
        go_wp2_with fail
        go_at_call 204
        refine (IT.out _ (hB0.trans (h1.mono (by simp)))).mono ?_
        rintro e2 w2 ⟨rfl, h2⟩
        obtain ⟨hc2, hf2⟩ := bcell h2
        have hz2 : w1.heap.size ≤ w2.heap.size := h2.size
        go_wp2_with fail
        go_ret2
        exact ⟨by rw [HS.out]; rfl, hB0.trans ((h1.trans (h2.mono h1.size)).mono (by simp))⟩
    · have c2 : ¬ 0 < p := c0
      have c3 : p = 0 := by omega
      rw [if_neg c0, List.nil_append] at hS
      clear c0
      by_cases c1 : l = []
      · rw [if_pos c1, List.append_nil] at hS
        have f1 : (bs l).toList = [] := by rw [hx, c1]
        have HS := Lib.hid (show S = bs v from by rw [hS]; (repeat rw [bs_join]); try exact congrArg bs (by simp))
        clear hx c1 hS
        subst c3
        go_enter Tryz.func193, Tryz.ntmps193
        go_wp2_with fail
        go_at_call 96
        refine (MA.out _).mono ?_
        rintro e1 w1 ⟨rfl, h1⟩
        obtain ⟨hc, hf⟩ := bcell h1
        have hz : w.heap.size < w1.heap.size := by have := h1.size; simp at this; omega
        go_wp2_with fail
        go_ret2
        exact ⟨by rw [HS.out]; rfl, hB0.trans (h1.mono (by simp))⟩
      · rw [if_neg c1] at hS
        have f1 : ¬ (bs l).toList = [] := by rw [hx]; exact c1
        have f2 : (bs l).toList.isEmpty = false := by rw [hx]; simpa using c1
        have HS := Lib.hid (show S = bs v ++ (bs [45] ++ bs l) from by rw [hS]; (repeat rw [bs_join]); try exact congrArg bs (by simp))
        clear hx c1 hS
        subst c3
        go_enter Tryz.func193, Tryz.ntmps193
        go_wp2_with fail
        go_at_call 96
        refine (MA.out _).mono ?_
        rintro e1 w1 ⟨rfl, h1⟩
        obtain ⟨hc, hf⟩ := bcell h1
        have hz : w.heap.size < w1.heap.size := by have := h1.size; simp at this; omega
        go_wp2_with fail
        go_ret2
        exact ⟨by rw [HS.out]; rfl, hB0.trans (h1.mono (by simp))⟩
end Go.Proofs.YtnfagaccbkeikaaGreatDoor
