/- Walks: what the statements of evr ask first. -/
import Derived.Test.YtaibdghalhbpnaaDoorEvParse
namespace Go.Proofs.YtaibdghalhbpnaaDoor
open Go.RowKit Go.Shelf

def ofE (s : Bytes) : Evr := match evOf s with | some e => e | none => zeroE
def largeB (e : Evr) : Bool := decide (300 < e.ver.length) || decide (300 < e.rel.length)
theorem large_small {e : Evr} (h : largeB e = false) : e.ok := by
  unfold largeB at h
  simp only [Bool.or_eq_false_iff, decide_eq_false_iff_not] at h
  exact ⟨by omega, by omega⟩
set_option maxRecDepth 100000 in
set_option maxHeartbeats 8000000 in
theorem large_any (e : Evr) (w : World) (hw : e.wf) : Calls Tryd.prog 51 #[e.val] w fun r w' => r = .returned (.bool (largeB e)) ∧ Below w.heap.size w w' := by
  have h1 := hw.2.1
  have h2 := hw.2.2
  unfold maxLen at h1 h2
  obtain ⟨r, hr⟩ : ∃ r, r = largeB e := ⟨_, rfl⟩
  rw [← hr]
  unfold largeB at hr
  obtain ⟨p, v, l⟩ := e
  dsimp only at *
  have s1 := bs_size v
  have s2 := bs_size l
  unfold Evr.val
  dsimp only
  clear hw
  by_cases c1 : 300 < v.length
  · obtain rfl : r = true := by rw [hr, decide_eq_true c1]; rfl
    clear hr
    have c2 : (300 : Int) < ((bs v).size : Int) := by omega
    clear s1 s2
    go_enter Tryd.func51, Tryd.ntmps51
    go_wp2
    go_ret
    exact ⟨rfl, (Below.refl _ _).alloc (Nat.le_refl _) _⟩
  · by_cases c3 : 300 < l.length
    · obtain rfl : r = true := by rw [hr, decide_eq_true c3]; simp
      clear hr
      have c2 : ¬ (300 : Int) < ((bs v).size : Int) := by omega
      have c4 : (300 : Int) < ((bs l).size : Int) := by omega
      clear s1 s2
      go_enter Tryd.func51, Tryd.ntmps51
      go_wp2
      go_ret
      exact ⟨rfl, (Below.refl _ _).alloc (Nat.le_refl _) _⟩
    · obtain rfl : r = false := by rw [hr, decide_eq_false c1, decide_eq_false c3]; rfl
      clear hr
      have c2 : ¬ (300 : Int) < ((bs v).size : Int) := by omega
      have c4 : ¬ (300 : Int) < ((bs l).size : Int) := by omega
      clear s1 s2
      go_enter Tryd.func51, Tryd.ntmps51
      go_wp2
      go_ret
      exact ⟨rfl, (Below.refl _ _).alloc (Nat.le_refl _) _⟩
set_option maxRecDepth 100000 in
set_option maxHeartbeats 8000000 in
theorem of_any (s : ByteArray) (w : World) (hs : s.size ≤ 4000000000) (hI : EvIn w) : Calls Tryd.prog 49 #[.string s] w fun r w' => r = .returned (ofE s.toList).val ∧ Below w.heap.size w w' := by
  have PA := Lib.hid (fun W (h : Below w.heap.size w W) => evParse_any s W hs (hI.below h))
  have hB0 : Below w.heap.size w (w.alloc (.cells #[.int .i64 0, .string ⟨#[]⟩, .string ⟨#[]⟩] 23)) := (Below.refl _ _).alloc (Nat.le_refl _) _
  unfold parseV at PA
  unfold ofE
  clear hI
  cases ho : evOf s.toList with
  | none =>
    rw [ho] at PA
    dsimp only at *
    unfold zeroE Evr.val at *
    dsimp only at *
    rw [show bs [] = (⟨#[]⟩ : ByteArray) from rfl] at PA ⊢
    clear ho
    go_enter Tryd.func49, Tryd.ntmps49
    go_wp2_with fail
    go_at_call 53
    refine (PA.out _ hB0).mono ?_
    rintro e1 w1 ⟨rfl, h1⟩
    obtain ⟨hc, hf⟩ := bcell h1
    have hz : w.heap.size < w1.heap.size := by have := h1.size; simp at this; omega
    have hx := hB0.trans (h1.mono (by simp))
    go_wp2_with fail
    exact bodyPost_ret (v := .agg #[.int .i64 0, .string ⟨#[]⟩, .string ⟨#[]⟩]) (by simp [results, Tryd.results49, go_sem, hc, hz]) rfl ⟨rfl, (((hx.setCell (by simp) _).setCell (by simp) _).setCell (by simp) _).alloc (by simp [World.setCell]; omega) _⟩
  | some e =>
    rw [ho] at PA
    dsimp only at *
    obtain ⟨p, v, l⟩ := e
    unfold Evr.val at *
    dsimp only at *
    clear ho
    go_enter Tryd.func49, Tryd.ntmps49
    go_wp2_with fail
    go_at_call 53
    refine (PA.out _ hB0).mono ?_
    rintro e1 w1 ⟨rfl, h1⟩
    obtain ⟨hc, hf⟩ := bcell h1
    have hz : w.heap.size < w1.heap.size := by have := h1.size; simp at this; omega
    have hx := hB0.trans (h1.mono (by simp))
    go_wp2_with fail
    exact bodyPost_ret (v := .agg #[.int .i64 p, .string (bs v), .string (bs l)]) (by simp [results, Tryd.results49, go_sem, hc, hz]) rfl ⟨rfl, (((hx.setCell (by simp) _).setCell (by simp) _).setCell (by simp) _).alloc (by simp [World.setCell]; omega) _⟩
set_option maxRecDepth 100000 in
set_option maxHeartbeats 8000000 in
theorem bad_any (s : ByteArray) (w : World) (hs : s.size ≤ 4000000000) (hI : EvIn w) : Calls Tryd.prog 47 #[.string s] w fun r w' => r = .returned (.bool (evOf s.toList).isNone) ∧ Below w.heap.size w w' := by
  have PA := Lib.hid (fun W (h : Below w.heap.size w W) => evParse_any s W hs (hI.below h))
  unfold parseV at PA
  clear hI
  cases ho : evOf s.toList with
  | none =>
    rw [ho] at PA
    dsimp only [Option.isNone] at *
    unfold zeroE Evr.val at *
    dsimp only at *
    rw [show bs [] = ⟨#[]⟩ from rfl] at PA
    clear ho
    go_enter Tryd.func47, Tryd.ntmps47
    go_wp2_with fail
    go_at_call 53
    refine (PA.out _ (Below.refl _ _)).mono ?_
    rintro e1 w1 ⟨rfl, h1⟩
    go_wp2_with fail
    go_ret
    exact ⟨rfl, h1.alloc h1.size _⟩
  | some e =>
    rw [ho] at PA
    dsimp only [Option.isNone] at *
    obtain ⟨p, v, l⟩ := e
    unfold Evr.val at *
    dsimp only at *
    clear ho
    go_enter Tryd.func47, Tryd.ntmps47
    go_wp2_with fail
    go_at_call 53
    refine (PA.out _ (Below.refl _ _)).mono ?_
    rintro e1 w1 ⟨rfl, h1⟩
    go_wp2_with fail
    go_ret
    exact ⟨rfl, h1.alloc h1.size _⟩
theorem of_some {s : Bytes} {e : Evr} (h : IsEvr s e) : ofE s = e := by unfold ofE; rw [evOf_iff.2 h]
theorem of_lit (s : ByteArray) (p : Int) (v l : ByteArray) (w : World) (hI : EvIn w) (hs : decide (s.size ≤ 4000000000) = true) (h : IsEvr s.toList ⟨p, v.toList, l.toList⟩) :
    Calls Tryd.prog 49 #[.string s] w fun r w' => r = .returned (.agg #[.int .i64 p, .string v, .string l]) ∧ Below w.heap.size w w' := by
  have h2 := of_any s w (of_decide_eq_true hs) hI
  rw [of_some h] at h2
  unfold Evr.val at h2
  dsimp only at h2
  rw [bs_of, bs_of] at h2
  exact h2
theorem bad_lit (s : ByteArray) (w : World) (hI : EvIn w) (hs : decide (s.size ≤ 4000000000) = true) (h : evOf s.toList = none) :
    Calls Tryd.prog 47 #[.string s] w fun r w' => r = .returned (.bool true) ∧ Below w.heap.size w w' := by
  have h2 := bad_any s w (of_decide_eq_true hs) hI
  rw [h] at h2
  exact h2
theorem none_pc {s : Bytes} (h : pcand s = none) : evOf s = none := by unfold evOf; rw [h]
theorem none_may {s : Bytes} {e : Evr} (h : pcand s = some e) (hm : mayB e true = false) : evOf s = none := by unfold evOf; rw [h]; dsimp only; rw [if_neg (fun g => by rw [hm] at g; cases g.1)]
theorem none_show {s : Bytes} {e : Evr} (h : pcand s = some e) (hm : showL e ≠ s) : evOf s = none := by unfold evOf; rw [h]; dsimp only; rw [if_neg (fun g => hm g.2)]
theorem show_one (v l : Bytes) : showL ⟨1, v, l⟩ = [49, 58] ++ (v ++ relL l) := by
  unfold showL
  dsimp only
  rw [if_pos (by decide)]
  unfold Lib.itoa
  rw [if_neg (by decide), show (1 : Int).toNat = 1 from rfl, Lib.decDigits_one (by decide)]
  rfl
theorem show_zero (v l : Bytes) : showL ⟨0, v, l⟩ = v ++ relL l := by
  unfold showL
  dsimp only
  rw [if_neg (by decide)]; rfl
theorem evr_lit (p q : Int) (v l x y : ByteArray) (r : Int) (w : World) (hs : (decide (v.size ≤ 1000000) && (decide (l.size ≤ 1000000) && (decide (x.size ≤ 1000000) && decide (y.size ≤ 1000000)))) = true) (h : ecmp ⟨p, v.toList, l.toList⟩ ⟨q, x.toList, y.toList⟩ = r) :
    Calls Tryd.prog 29 #[.agg #[.int .i64 p, .string v, .string l], .agg #[.int .i64 q, .string x, .string y]] w fun e w' => e = .returned (.int .i64 r) ∧ Below w.heap.size w w' := by
  simp only [Bool.and_eq_true, decide_eq_true_eq] at hs
  have h2 := evr_any ⟨p, v.toList, l.toList⟩ ⟨q, x.toList, y.toList⟩ w (by rw [size_toList]; exact hs.1) (by rw [size_toList]; exact hs.2.2.1) (by rw [size_toList]; exact hs.2.1) (by rw [size_toList]; exact hs.2.2.2)
  rw [h] at h2
  unfold Evr.val at h2
  dsimp only at h2
  rw [bs_of, bs_of, bs_of, bs_of] at h2
  exact h2
set_option maxRecDepth 100000 in
set_option maxHeartbeats 8000000 in
theorem works_any (w : World) (hI : EvIn w) : Calls Tryd.prog 45 #[] w fun r w' => r = .returned (.bool true) ∧ Below w.heap.size w w' := by
  have O_n1_58_2_46_0_45_3 := Lib.hid (fun W (h : Below w.heap.size w W) => of_lit ⟨#[49, 58, 50, 46, 48, 45, 51]⟩ 1 ⟨#[50, 46, 48]⟩ ⟨#[51]⟩ W (hI.below h) (by decide) (by rw [show (⟨#[49, 58, 50, 46, 48, 45, 51]⟩ : ByteArray).toList = [49, 58, 50, 46, 48, 45, 51] from bs_toList _, show (⟨#[50, 46, 48]⟩ : ByteArray).toList = [50, 46, 48] from bs_toList _, show (⟨#[51]⟩ : ByteArray).toList = [51] from bs_toList _]; exact ⟨by decide +kernel, by rw [show_one]; rfl⟩))
  have O_n2_46_0 := Lib.hid (fun W (h : Below w.heap.size w W) => of_lit ⟨#[50, 46, 48]⟩ 0 ⟨#[50, 46, 48]⟩ ⟨#[]⟩ W (hI.below h) (by decide) (by rw [show (⟨#[50, 46, 48]⟩ : ByteArray).toList = [50, 46, 48] from bs_toList _, show (⟨#[]⟩ : ByteArray).toList = [] from bs_toList _]; exact ⟨by decide +kernel, by rw [show_zero]; rfl⟩))
  have O_n1_58_1_45_1 := Lib.hid (fun W (h : Below w.heap.size w W) => of_lit ⟨#[49, 58, 49, 45, 49]⟩ 1 ⟨#[49]⟩ ⟨#[49]⟩ W (hI.below h) (by decide) (by rw [show (⟨#[49, 58, 49, 45, 49]⟩ : ByteArray).toList = [49, 58, 49, 45, 49] from bs_toList _, show (⟨#[49]⟩ : ByteArray).toList = [49] from bs_toList _]; exact ⟨by decide +kernel, by rw [show_one]; rfl⟩))
  have O_n9_45_1 := Lib.hid (fun W (h : Below w.heap.size w W) => of_lit ⟨#[57, 45, 49]⟩ 0 ⟨#[57]⟩ ⟨#[49]⟩ W (hI.below h) (by decide) (by rw [show (⟨#[57, 45, 49]⟩ : ByteArray).toList = [57, 45, 49] from bs_toList _, show (⟨#[57]⟩ : ByteArray).toList = [57] from bs_toList _, show (⟨#[49]⟩ : ByteArray).toList = [49] from bs_toList _]; exact ⟨by decide +kernel, by rw [show_zero]; rfl⟩))
  have O_n1_45_2 := Lib.hid (fun W (h : Below w.heap.size w W) => of_lit ⟨#[49, 45, 50]⟩ 0 ⟨#[49]⟩ ⟨#[50]⟩ W (hI.below h) (by decide) (by rw [show (⟨#[49, 45, 50]⟩ : ByteArray).toList = [49, 45, 50] from bs_toList _, show (⟨#[49]⟩ : ByteArray).toList = [49] from bs_toList _, show (⟨#[50]⟩ : ByteArray).toList = [50] from bs_toList _]; exact ⟨by decide +kernel, by rw [show_zero]; rfl⟩))
  have O_n1 := Lib.hid (fun W (h : Below w.heap.size w W) => of_lit ⟨#[49]⟩ 0 ⟨#[49]⟩ ⟨#[]⟩ W (hI.below h) (by decide) (by rw [show (⟨#[49]⟩ : ByteArray).toList = [49] from bs_toList _, show (⟨#[]⟩ : ByteArray).toList = [] from bs_toList _]; exact ⟨by decide +kernel, by rw [show_zero]; rfl⟩))
  have O_n1_45_1 := Lib.hid (fun W (h : Below w.heap.size w W) => of_lit ⟨#[49, 45, 49]⟩ 0 ⟨#[49]⟩ ⟨#[49]⟩ W (hI.below h) (by decide) (by rw [show (⟨#[49, 45, 49]⟩ : ByteArray).toList = [49, 45, 49] from bs_toList _, show (⟨#[49]⟩ : ByteArray).toList = [49] from bs_toList _]; exact ⟨by decide +kernel, by rw [show_zero]; rfl⟩))
  have B_n0_58_1 := Lib.hid (fun W (h : Below w.heap.size w W) => bad_lit ⟨#[48, 58, 49]⟩ W (hI.below h) (by decide) (by rw [show (⟨#[48, 58, 49]⟩ : ByteArray).toList = [48, 58, 49] from bs_toList _]; exact none_show (e := ⟨0, [49], []⟩) rfl (by rw [show_zero]; decide)))
  have B_n01_58_1 := Lib.hid (fun W (h : Below w.heap.size w W) => bad_lit ⟨#[48, 49, 58, 49]⟩ W (hI.below h) (by decide) (by rw [show (⟨#[48, 49, 58, 49]⟩ : ByteArray).toList = [48, 49, 58, 49] from bs_toList _]; exact none_show (e := ⟨1, [49], []⟩) rfl (by rw [show_one]; decide)))
  have B_n1_45_ := Lib.hid (fun W (h : Below w.heap.size w W) => bad_lit ⟨#[49, 45]⟩ W (hI.below h) (by decide) (by rw [show (⟨#[49, 45]⟩ : ByteArray).toList = [49, 45] from bs_toList _]; exact none_show (e := ⟨0, [49], []⟩) rfl (by rw [show_zero]; decide)))
  have B_n_58_1 := Lib.hid (fun W (h : Below w.heap.size w W) => bad_lit ⟨#[58, 49]⟩ W (hI.below h) (by decide) (by rw [show (⟨#[58, 49]⟩ : ByteArray).toList = [58, 49] from bs_toList _]; exact none_pc rfl))
  have B_n1_45_2_45_3 := Lib.hid (fun W (h : Below w.heap.size w W) => bad_lit ⟨#[49, 45, 50, 45, 51]⟩ W (hI.below h) (by decide) (by rw [show (⟨#[49, 45, 50, 45, 51]⟩ : ByteArray).toList = [49, 45, 50, 45, 51] from bs_toList _]; exact none_may (e := ⟨0, [49], [50, 45, 51]⟩) rfl (by decide +kernel)))
  have C_9 := Lib.hid (fun W => evr_lit 1 0 ⟨#[49]⟩ ⟨#[49]⟩ ⟨#[57]⟩ ⟨#[49]⟩ (1) W (by decide) (by rw [show (⟨#[49]⟩ : ByteArray).toList = [49] from bs_toList _, show (⟨#[57]⟩ : ByteArray).toList = [57] from bs_toList _]; decide +kernel))
  have C_12 := Lib.hid (fun W => evr_lit 0 0 ⟨#[49]⟩ ⟨#[50]⟩ ⟨#[49]⟩ ⟨#[]⟩ (0) W (by decide) (by rw [show (⟨#[49]⟩ : ByteArray).toList = [49] from bs_toList _, show (⟨#[50]⟩ : ByteArray).toList = [50] from bs_toList _, show (⟨#[]⟩ : ByteArray).toList = [] from bs_toList _]; decide +kernel))
  have C_15 := Lib.hid (fun W => evr_lit 0 0 ⟨#[49]⟩ ⟨#[50]⟩ ⟨#[49]⟩ ⟨#[49]⟩ (1) W (by decide) (by rw [show (⟨#[49]⟩ : ByteArray).toList = [49] from bs_toList _, show (⟨#[50]⟩ : ByteArray).toList = [50] from bs_toList _]; decide +kernel))
  clear hI
  have B0 : Below w.heap.size w w := Below.refl _ _
  go_enter Tryd.func45, Tryd.ntmps45
  go_wp2_with fail
  go_at_call 49
  refine (O_n1_58_2_46_0_45_3.out _ B0).mono ?_
  rintro e0 w0 ⟨rfl, h⟩
  have B1 := B0.trans (h.mono B0.size)
  clear h
  go_wp2_with fail
  go_at_call 49
  refine (O_n2_46_0.out _ B1).mono ?_
  rintro e1 w1 ⟨rfl, h⟩
  have B2 := B1.trans (h.mono B1.size)
  clear h
  go_wp2_with fail
  go_at_call 47
  refine (B_n0_58_1.out _ B2).mono ?_
  rintro e2 w2 ⟨rfl, h⟩
  have B3 := B2.trans (h.mono B2.size)
  clear h
  go_wp2_with fail
  go_at_call 47
  refine (B_n01_58_1.out _ B3).mono ?_
  rintro e3 w3 ⟨rfl, h⟩
  have B4 := B3.trans (h.mono B3.size)
  clear h
  go_wp2_with fail
  go_at_call 47
  refine (B_n1_45_.out _ B4).mono ?_
  rintro e4 w4 ⟨rfl, h⟩
  have B5 := B4.trans (h.mono B4.size)
  clear h
  go_wp2_with fail
  go_at_call 47
  refine (B_n_58_1.out _ B5).mono ?_
  rintro e5 w5 ⟨rfl, h⟩
  have B6 := B5.trans (h.mono B5.size)
  clear h
  go_wp2_with fail
  go_at_call 47
  refine (B_n1_45_2_45_3.out _ B6).mono ?_
  rintro e6 w6 ⟨rfl, h⟩
  have B7 := B6.trans (h.mono B6.size)
  clear h
  go_wp2_with fail
  go_at_call 49
  refine (O_n1_58_1_45_1.out _ B7).mono ?_
  rintro e7 w7 ⟨rfl, h⟩
  have B8 := B7.trans (h.mono B7.size)
  clear h
  go_wp2_with fail
  go_at_call 49
  refine (O_n9_45_1.out _ B8).mono ?_
  rintro e8 w8 ⟨rfl, h⟩
  have B9 := B8.trans (h.mono B8.size)
  clear h
  go_wp2_with fail
  go_at_call 29
  refine (C_9.out _).mono ?_
  rintro e9 w9 ⟨rfl, h⟩
  have B10 := B9.trans (h.mono B9.size)
  clear h
  go_wp2_with fail
  go_at_call 49
  refine (O_n1_45_2.out _ B10).mono ?_
  rintro e10 w10 ⟨rfl, h⟩
  have B11 := B10.trans (h.mono B10.size)
  clear h
  go_wp2_with fail
  go_at_call 49
  refine (O_n1.out _ B11).mono ?_
  rintro e11 w11 ⟨rfl, h⟩
  have B12 := B11.trans (h.mono B11.size)
  clear h
  go_wp2_with fail
  go_at_call 29
  refine (C_12.out _).mono ?_
  rintro e12 w12 ⟨rfl, h⟩
  have B13 := B12.trans (h.mono B12.size)
  clear h
  go_wp2_with fail
  go_at_call 49
  refine (O_n1_45_2.out _ B13).mono ?_
  rintro e13 w13 ⟨rfl, h⟩
  have B14 := B13.trans (h.mono B13.size)
  clear h
  go_wp2_with fail
  go_at_call 49
  refine (O_n1_45_1.out _ B14).mono ?_
  rintro e14 w14 ⟨rfl, h⟩
  have B15 := B14.trans (h.mono B14.size)
  clear h
  go_wp2_with fail
  go_at_call 29
  refine (C_15.out _).mono ?_
  rintro e15 w15 ⟨rfl, h⟩
  have B16 := B15.trans (h.mono B15.size)
  clear h
  go_wp2
  go_ret
  exact ⟨rfl, B16⟩
end Go.Proofs.YtaibdghalhbpnaaDoor
