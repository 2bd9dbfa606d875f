/- DepSpace, walked. -/
import Derived.Test.YtmmebheciolnoaaDoorDepAwake
namespace Go.Proofs.YtmmebheciolnoaaDoor
open Go.RowKit Go.Shelf

/-- the signs that are put in -/
def putL : Bytes := [32, 40, 41, 44, 33, 42]
theorem put_key : ∀ k : Fin 6, sgn (putL[k.val]'k.isLt) = false ∧ opc (putL[k.val]'k.isLt) = false := by decide +kernel
theorem put_bs {t : ByteArray} {k : Nat} (c : UInt8) (hk : k ≤ t.size) : ((t.extract 0 k ++ ⟨#[c]⟩) ++ t.extract k t.size).toList = t.toList.take k ++ c :: t.toList.drop k := by
  rw [toList_append, toList_append, toList_extract, toList_extract, show (⟨#[c]⟩ : ByteArray).toList = [c] from bs_toList _, List.drop_zero, Nat.sub_zero, List.take_of_length_le (l := t.toList.drop k) (by simp [size_toList])]
  simp
set_option maxRecDepth 100000 in
set_option maxHeartbeats 16000000 in
theorem depSpace_a (w : World) (hI : DpIn w) (d : Dp) (wd : d.wf) (at_ : Int) (wat : (Lit.int .i64 at_).wf = true) (sg : Int) (wsg : (Lit.int .i64 sg).wf = true) (la : longD d = true) : Calls Tryd.prog 9 #[d.val, .int .i64 at_, .int .i64 sg] w fun e w' => e = .returned (.bool true) ∧ Below w.heap.size w w' := by
  have LA := Lib.hid (fun W => long06_any d W wd)
  have AW := Lib.hid (fun W (h : Below w.heap.size w W) => awake06 W (hI.below h))
  have S0 := new_d1 d w
  dsimp only at S0
  rw [la] at LA
  clear la hI wd wat wsg
  unfold Dp.val at *
  go_enter Tryd.func9, Tryd.ntmps9
  go_wp2_with fail
  go_at_call 36
  generalize (w.alloc (.cells #[.string (bs d.name), .int .u8 d.op, .int .i64 d.evr.epoch, .string (bs d.evr.ver), .string (bs d.evr.rel)] 40)) = W at *
  generalize hn : w.heap.size = n at *
  obtain ⟨c0_0, c0_1, c0_2, c0_3, c0_4, l0, hB⟩ := id S0
  refine (LA.out _).mono ?_
  rintro e1 w1 ⟨rfl, h⟩
  have S1 := keep_d1 S0 h
  clear S0 h c0_0 c0_1 c0_2 c0_3 c0_4 l0 hB
  obtain ⟨c0_0, c0_1, c0_2, c0_3, c0_4, l0, hB⟩ := id S1
  go_wp2_with fail
  go_at_call 30
  refine (AW.out _ hB).mono ?_
  rintro e2 w2 ⟨rfl, h⟩
  have S2 := keep_d1 S1 h
  clear c0_0 c0_1 c0_2 c0_3 c0_4 l0 hB
  clear S1 h
  obtain ⟨c0_0, c0_1, c0_2, c0_3, c0_4, l0, hB⟩ := id S2
  go_wp2_with fail
  go_ret
  exact ⟨rfl, by rw [hn]; exact hB⟩
set_option maxRecDepth 100000 in
set_option maxHeartbeats 16000000 in
theorem depSpace_n (w : World) (hI : DpIn w) (d : Dp) (wd : d.wf) (at_ : Int) (wat : (Lit.int .i64 at_).wf = true) (sg : Int) (wsg : (Lit.int .i64 sg).wf = true) (la : longD d = false) (hm : dmayB d = false) : Calls Tryd.prog 9 #[d.val, .int .i64 at_, .int .i64 sg] w fun e w' => e = .returned (.bool true) ∧ Below w.heap.size w w' := by
  have LA := Lib.hid (fun W => long06_any d W wd)
  have AW := Lib.hid (fun W (h : Below w.heap.size w W) => awake06 W (hI.below h))
  have S0 := new_d1 d w
  dsimp only at S0
  have SA := Lib.hid (fun W (h : Below w.heap.size w W) => dshow_any d W wd (hI.below h))
  rw [la] at LA
  rw [showDV_no hm] at SA
  clear la hI wd wat wsg hm
  unfold Dp.val at *
  go_enter Tryd.func9, Tryd.ntmps9
  go_wp2_with fail
  go_at_call 36
  generalize (w.alloc (.cells #[.string (bs d.name), .int .u8 d.op, .int .i64 d.evr.epoch, .string (bs d.evr.ver), .string (bs d.evr.rel)] 40)) = W at *
  generalize hn : w.heap.size = n at *
  obtain ⟨c0_0, c0_1, c0_2, c0_3, c0_4, l0, hB⟩ := id S0
  refine (LA.out _).mono ?_
  rintro e1 w1 ⟨rfl, h⟩
  have S1 := keep_d1 S0 h
  clear S0 h c0_0 c0_1 c0_2 c0_3 c0_4 l0 hB
  obtain ⟨c0_0, c0_1, c0_2, c0_3, c0_4, l0, hB⟩ := id S1
  go_wp2_with fail
  go_at_call 30
  refine (AW.out _ hB).mono ?_
  rintro e2 w2 ⟨rfl, h⟩
  have S2 := keep_d1 S1 h
  clear c0_0 c0_1 c0_2 c0_3 c0_4 l0 hB
  clear S1 h
  obtain ⟨c0_0, c0_1, c0_2, c0_3, c0_4, l0, hB⟩ := id S2
  go_wp2_with fail
  go_at_call 41
  refine (SA.out _ hB).mono ?_
  rintro e3 w3 ⟨rfl, h⟩
  have S3 := keep_d1 S2 h
  clear c0_0 c0_1 c0_2 c0_3 c0_4 l0 hB
  clear S2 h
  obtain ⟨c0_0, c0_1, c0_2, c0_3, c0_4, l0, hB⟩ := id S3
  go_wp2_with fail
  go_ret
  exact ⟨rfl, by rw [hn]; exact hB⟩
theorem bk_call {n : Nat} {w W W' : World} (hn : w.heap.size = n) (h : Below n w W) (hb : Below W.heap.size W W') : Below n w W' := h.trans (hb.mono (hn ▸ h.size))
theorem bk_alloc {n : Nat} {w W : World} (hn : w.heap.size = n) (h : Below n w W) (o : Obj) : Below n w (W.alloc o) := h.alloc (hn ▸ h.size) o
theorem bk_le {n : Nat} {w W : World} (hn : w.heap.size = n) (h : Below n w W) : n ≤ W.heap.size := hn ▸ h.size
set_option maxRecDepth 100000 in
set_option maxHeartbeats 16000000 in
theorem depSpace_y0 (w : World) (hI : DpIn w) (d : Dp) (wd : d.wf) (at_ : Int) (wat : (Lit.int .i64 at_).wf = true) (sg : Int) (wsg : (Lit.int .i64 sg).wf = true) (la : longD d = false) (hm : dmayB d = true) (k : Nat) (hk : k ≤ (bs (dpText d)).size) (K : wrap64 ((IntKind.u64.wrap at_).tmod (((bs (dpText d)).size : Int) + 1)) = (k : Int)) (J : wrap64 ((IntKind.u64.wrap sg).tmod 6) = 0) : Calls Tryd.prog 9 #[d.val, .int .i64 at_, .int .i64 sg] w fun e w' => e = .returned (.bool true) ∧ Below w.heap.size w w' := by
  have LA := Lib.hid (fun W => long06_any d W wd)
  have AW := Lib.hid (fun W (h : Below w.heap.size w W) => awake06 W (hI.below h))
  have S0 := new_d1 d w
  dsimp only at S0
  have SA := Lib.hid (fun W (h : Below w.heap.size w W) => dshow_any d W wd (hI.below h))
  rw [la] at LA
  rw [showDV_yes hm] at SA
  have hln := dpText_len hm
  have hT := bs_size (dpText d)
  have hT2 : (bs (dpText d)).size ≤ 1000 := by omega
  have PN := Lib.hid (fun (X : ByteArray) W (h : Below w.heap.size w W) (hs : X.size ≤ 10000) (hx : dpOf (splitSp X.toList) = none) => show Calls Tryd.prog 31 #[.string X] W fun e w' => e = .returned (.tuple #[.agg #[.string ⟨#[]⟩, .int .u8 0, .int .i64 0, .string ⟨#[]⟩, .string ⟨#[]⟩], .int .i64 4]) ∧ Below W.heap.size W w' from by have h2 := dparse_any X W (by omega) (hI.below h); rw [hx] at h2; exact h2)
  have PT := dp_put hm k 32 (by decide) (by decide)
  have hTL : (bs (dpText d)).toList = dpText d := bs_toList _
  generalize dpText d = L at *
  generalize bs L = T at *
  subst hTL
  rw [← put_bs 32 hk] at PT
  have PX := Lib.hid (fun W h => PN.out _ W h (by rw [ByteArray.size_append, ByteArray.size_append, ByteArray.size_extract, ByteArray.size_extract]; show _ + 1 + _ ≤ 10000; omega) PT)
  clear PN PT la hI wd hm hln hT
  have q1 : ¬ 9223372036854775807 < k + 1 := by omega
  have q2 : ¬ 9223372036854775807 < k + 1 + (T.size - k) := by omega
  have k0 : (0 : Int) ≤ (k : Int) := by omega
  have k1 : (k : Int) ≤ (T.size : Int) := by omega
  have z1 : (T.extract 0 k).size ≤ 1000 := by rw [ByteArray.size_extract]; omega
  have z2 : (T.extract k T.size).size ≤ 1000 := by rw [ByteArray.size_extract]; omega
  have HK := Lib.hid K
  have HJ := Lib.hid J
  clear K J
  unfold Dp.val at *
  go_enter Tryd.func9, Tryd.ntmps9
  go_wp2_with fail
  go_at_call 36
  generalize (w.alloc (.cells #[.string (bs d.name), .int .u8 d.op, .int .i64 d.evr.epoch, .string (bs d.evr.ver), .string (bs d.evr.rel)] 40)) = W at *
  generalize hn : w.heap.size = n at *
  obtain ⟨c0_0, c0_1, c0_2, c0_3, c0_4, l0, hB⟩ := id S0
  refine (LA.out _).mono ?_
  rintro e1 w1 ⟨rfl, h⟩
  have S1 := keep_d1 S0 h
  clear S0 h c0_0 c0_1 c0_2 c0_3 c0_4 l0 hB
  obtain ⟨c0_0, c0_1, c0_2, c0_3, c0_4, l0, hB⟩ := id S1
  go_wp2_with fail
  go_at_call 30
  refine (AW.out _ hB).mono ?_
  rintro e2 w2 ⟨rfl, h⟩
  have S2 := keep_d1 S1 h
  clear c0_0 c0_1 c0_2 c0_3 c0_4 l0 hB
  clear S1 h
  obtain ⟨c0_0, c0_1, c0_2, c0_3, c0_4, l0, hB⟩ := id S2
  go_wp2_with fail
  go_at_call 41
  refine (SA.out _ hB).mono ?_
  rintro e3 w3 ⟨rfl, h⟩
  have S3 := keep_d1 S2 h
  clear c0_0 c0_1 c0_2 c0_3 c0_4 l0 hB
  clear S2 h
  obtain ⟨c0_0, c0_1, c0_2, c0_3, c0_4, l0, hB⟩ := id S3
  clear SA LA AW c0_0 c0_1 c0_2 c0_3 c0_4 l0
  have K := HK.out
  have J := HJ.out
  go_wp2_with fail
  clear K J
  rw [HK.out]
  have HE : ∀ h : 0 < (⟨#[32, 40, 41, 44, 33, 42]⟩ : ByteArray).size, Utf8.encode (((⟨#[32, 40, 41, 44, 33, 42]⟩ : ByteArray)[0]'h).toNat : Int) = ⟨#[32]⟩ := fun _ => show Utf8.encode 32 = ⟨#[32]⟩ by decide +kernel
  simp only [HE]
  clear HE HK HJ
  have hS := bk_le hn hB
  go_region_with ((go_at_call 31; refine (PX.out _ (by first | exact hB.drew | exact hB | exact (hB.alloc hS _).drew | exact hB.drew.alloc hS _ | exact hB.alloc hS _)).mono ?_; rintro e w' ⟨rfl, hbb⟩; obtain ⟨hc, hf⟩ := bcell hbb; (first | (have hz2 : w3.heap.size < w'.heap.size := by (have := hbb.size; simp at this; omega)) | skip); have hBn : Below n w w' := by first | exact bk_call hn hB.drew hbb | exact bk_call hn (hB.drew.alloc hS _) hbb | exact bk_call hn (hB.alloc hS _).drew hbb | exact bk_call hn (hB.alloc hS _) hbb | exact bk_call hn hB hbb))
  · go_wp2
    go_ret
    exact ⟨rfl, by rw [hn]; exact bk_alloc hn hBn _⟩
  · go_wp2
    go_ret
    exact ⟨rfl, by rw [hn]; exact Below.setCell (Below.setCell (Below.setCell (Below.setCell (Below.setCell hBn hS _) hS _) hS _) hS _) hS _⟩
set_option maxRecDepth 100000 in
set_option maxHeartbeats 16000000 in
theorem depSpace_y1 (w : World) (hI : DpIn w) (d : Dp) (wd : d.wf) (at_ : Int) (wat : (Lit.int .i64 at_).wf = true) (sg : Int) (wsg : (Lit.int .i64 sg).wf = true) (la : longD d = false) (hm : dmayB d = true) (k : Nat) (hk : k ≤ (bs (dpText d)).size) (K : wrap64 ((IntKind.u64.wrap at_).tmod (((bs (dpText d)).size : Int) + 1)) = (k : Int)) (J : wrap64 ((IntKind.u64.wrap sg).tmod 6) = 1) : Calls Tryd.prog 9 #[d.val, .int .i64 at_, .int .i64 sg] w fun e w' => e = .returned (.bool true) ∧ Below w.heap.size w w' := by
  have LA := Lib.hid (fun W => long06_any d W wd)
  have AW := Lib.hid (fun W (h : Below w.heap.size w W) => awake06 W (hI.below h))
  have S0 := new_d1 d w
  dsimp only at S0
  have SA := Lib.hid (fun W (h : Below w.heap.size w W) => dshow_any d W wd (hI.below h))
  rw [la] at LA
  rw [showDV_yes hm] at SA
  have hln := dpText_len hm
  have hT := bs_size (dpText d)
  have hT2 : (bs (dpText d)).size ≤ 1000 := by omega
  have PN := Lib.hid (fun (X : ByteArray) W (h : Below w.heap.size w W) (hs : X.size ≤ 10000) (hx : dpOf (splitSp X.toList) = none) => show Calls Tryd.prog 31 #[.string X] W fun e w' => e = .returned (.tuple #[.agg #[.string ⟨#[]⟩, .int .u8 0, .int .i64 0, .string ⟨#[]⟩, .string ⟨#[]⟩], .int .i64 4]) ∧ Below W.heap.size W w' from by have h2 := dparse_any X W (by omega) (hI.below h); rw [hx] at h2; exact h2)
  have PT := dp_put hm k 40 (by decide) (by decide)
  have hTL : (bs (dpText d)).toList = dpText d := bs_toList _
  generalize dpText d = L at *
  generalize bs L = T at *
  subst hTL
  rw [← put_bs 40 hk] at PT
  have PX := Lib.hid (fun W h => PN.out _ W h (by rw [ByteArray.size_append, ByteArray.size_append, ByteArray.size_extract, ByteArray.size_extract]; show _ + 1 + _ ≤ 10000; omega) PT)
  clear PN PT la hI wd hm hln hT
  have q1 : ¬ 9223372036854775807 < k + 1 := by omega
  have q2 : ¬ 9223372036854775807 < k + 1 + (T.size - k) := by omega
  have k0 : (0 : Int) ≤ (k : Int) := by omega
  have k1 : (k : Int) ≤ (T.size : Int) := by omega
  have z1 : (T.extract 0 k).size ≤ 1000 := by rw [ByteArray.size_extract]; omega
  have z2 : (T.extract k T.size).size ≤ 1000 := by rw [ByteArray.size_extract]; omega
  have HK := Lib.hid K
  have HJ := Lib.hid J
  clear K J
  unfold Dp.val at *
  go_enter Tryd.func9, Tryd.ntmps9
  go_wp2_with fail
  go_at_call 36
  generalize (w.alloc (.cells #[.string (bs d.name), .int .u8 d.op, .int .i64 d.evr.epoch, .string (bs d.evr.ver), .string (bs d.evr.rel)] 40)) = W at *
  generalize hn : w.heap.size = n at *
  obtain ⟨c0_0, c0_1, c0_2, c0_3, c0_4, l0, hB⟩ := id S0
  refine (LA.out _).mono ?_
  rintro e1 w1 ⟨rfl, h⟩
  have S1 := keep_d1 S0 h
  clear S0 h c0_0 c0_1 c0_2 c0_3 c0_4 l0 hB
  obtain ⟨c0_0, c0_1, c0_2, c0_3, c0_4, l0, hB⟩ := id S1
  go_wp2_with fail
  go_at_call 30
  refine (AW.out _ hB).mono ?_
  rintro e2 w2 ⟨rfl, h⟩
  have S2 := keep_d1 S1 h
  clear c0_0 c0_1 c0_2 c0_3 c0_4 l0 hB
  clear S1 h
  obtain ⟨c0_0, c0_1, c0_2, c0_3, c0_4, l0, hB⟩ := id S2
  go_wp2_with fail
  go_at_call 41
  refine (SA.out _ hB).mono ?_
  rintro e3 w3 ⟨rfl, h⟩
  have S3 := keep_d1 S2 h
  clear c0_0 c0_1 c0_2 c0_3 c0_4 l0 hB
  clear S2 h
  obtain ⟨c0_0, c0_1, c0_2, c0_3, c0_4, l0, hB⟩ := id S3
  clear SA LA AW c0_0 c0_1 c0_2 c0_3 c0_4 l0
  have K := HK.out
  have J := HJ.out
  go_wp2_with fail
  clear K J
  rw [HK.out]
  have HE : ∀ h : 1 < (⟨#[32, 40, 41, 44, 33, 42]⟩ : ByteArray).size, Utf8.encode (((⟨#[32, 40, 41, 44, 33, 42]⟩ : ByteArray)[1]'h).toNat : Int) = ⟨#[40]⟩ := fun _ => show Utf8.encode 40 = ⟨#[40]⟩ by decide +kernel
  simp only [HE]
  clear HE HK HJ
  have hS := bk_le hn hB
  go_region_with ((go_at_call 31; refine (PX.out _ (by first | exact hB.drew | exact hB | exact (hB.alloc hS _).drew | exact hB.drew.alloc hS _ | exact hB.alloc hS _)).mono ?_; rintro e w' ⟨rfl, hbb⟩; obtain ⟨hc, hf⟩ := bcell hbb; (first | (have hz2 : w3.heap.size < w'.heap.size := by (have := hbb.size; simp at this; omega)) | skip); have hBn : Below n w w' := by first | exact bk_call hn hB.drew hbb | exact bk_call hn (hB.drew.alloc hS _) hbb | exact bk_call hn (hB.alloc hS _).drew hbb | exact bk_call hn (hB.alloc hS _) hbb | exact bk_call hn hB hbb))
  · go_wp2
    go_ret
    exact ⟨rfl, by rw [hn]; exact bk_alloc hn hBn _⟩
  · go_wp2
    go_ret
    exact ⟨rfl, by rw [hn]; exact Below.setCell (Below.setCell (Below.setCell (Below.setCell (Below.setCell hBn hS _) hS _) hS _) hS _) hS _⟩
set_option maxRecDepth 100000 in
set_option maxHeartbeats 16000000 in
theorem depSpace_y2 (w : World) (hI : DpIn w) (d : Dp) (wd : d.wf) (at_ : Int) (wat : (Lit.int .i64 at_).wf = true) (sg : Int) (wsg : (Lit.int .i64 sg).wf = true) (la : longD d = false) (hm : dmayB d = true) (k : Nat) (hk : k ≤ (bs (dpText d)).size) (K : wrap64 ((IntKind.u64.wrap at_).tmod (((bs (dpText d)).size : Int) + 1)) = (k : Int)) (J : wrap64 ((IntKind.u64.wrap sg).tmod 6) = 2) : Calls Tryd.prog 9 #[d.val, .int .i64 at_, .int .i64 sg] w fun e w' => e = .returned (.bool true) ∧ Below w.heap.size w w' := by
  have LA := Lib.hid (fun W => long06_any d W wd)
  have AW := Lib.hid (fun W (h : Below w.heap.size w W) => awake06 W (hI.below h))
  have S0 := new_d1 d w
  dsimp only at S0
  have SA := Lib.hid (fun W (h : Below w.heap.size w W) => dshow_any d W wd (hI.below h))
  rw [la] at LA
  rw [showDV_yes hm] at SA
  have hln := dpText_len hm
  have hT := bs_size (dpText d)
  have hT2 : (bs (dpText d)).size ≤ 1000 := by omega
  have PN := Lib.hid (fun (X : ByteArray) W (h : Below w.heap.size w W) (hs : X.size ≤ 10000) (hx : dpOf (splitSp X.toList) = none) => show Calls Tryd.prog 31 #[.string X] W fun e w' => e = .returned (.tuple #[.agg #[.string ⟨#[]⟩, .int .u8 0, .int .i64 0, .string ⟨#[]⟩, .string ⟨#[]⟩], .int .i64 4]) ∧ Below W.heap.size W w' from by have h2 := dparse_any X W (by omega) (hI.below h); rw [hx] at h2; exact h2)
  have PT := dp_put hm k 41 (by decide) (by decide)
  have hTL : (bs (dpText d)).toList = dpText d := bs_toList _
  generalize dpText d = L at *
  generalize bs L = T at *
  subst hTL
  rw [← put_bs 41 hk] at PT
  have PX := Lib.hid (fun W h => PN.out _ W h (by rw [ByteArray.size_append, ByteArray.size_append, ByteArray.size_extract, ByteArray.size_extract]; show _ + 1 + _ ≤ 10000; omega) PT)
  clear PN PT la hI wd hm hln hT
  have q1 : ¬ 9223372036854775807 < k + 1 := by omega
  have q2 : ¬ 9223372036854775807 < k + 1 + (T.size - k) := by omega
  have k0 : (0 : Int) ≤ (k : Int) := by omega
  have k1 : (k : Int) ≤ (T.size : Int) := by omega
  have z1 : (T.extract 0 k).size ≤ 1000 := by rw [ByteArray.size_extract]; omega
  have z2 : (T.extract k T.size).size ≤ 1000 := by rw [ByteArray.size_extract]; omega
  have HK := Lib.hid K
  have HJ := Lib.hid J
  clear K J
  unfold Dp.val at *
  go_enter Tryd.func9, Tryd.ntmps9
  go_wp2_with fail
  go_at_call 36
  generalize (w.alloc (.cells #[.string (bs d.name), .int .u8 d.op, .int .i64 d.evr.epoch, .string (bs d.evr.ver), .string (bs d.evr.rel)] 40)) = W at *
  generalize hn : w.heap.size = n at *
  obtain ⟨c0_0, c0_1, c0_2, c0_3, c0_4, l0, hB⟩ := id S0
  refine (LA.out _).mono ?_
  rintro e1 w1 ⟨rfl, h⟩
  have S1 := keep_d1 S0 h
  clear S0 h c0_0 c0_1 c0_2 c0_3 c0_4 l0 hB
  obtain ⟨c0_0, c0_1, c0_2, c0_3, c0_4, l0, hB⟩ := id S1
  go_wp2_with fail
  go_at_call 30
  refine (AW.out _ hB).mono ?_
  rintro e2 w2 ⟨rfl, h⟩
  have S2 := keep_d1 S1 h
  clear c0_0 c0_1 c0_2 c0_3 c0_4 l0 hB
  clear S1 h
  obtain ⟨c0_0, c0_1, c0_2, c0_3, c0_4, l0, hB⟩ := id S2
  go_wp2_with fail
  go_at_call 41
  refine (SA.out _ hB).mono ?_
  rintro e3 w3 ⟨rfl, h⟩
  have S3 := keep_d1 S2 h
  clear c0_0 c0_1 c0_2 c0_3 c0_4 l0 hB
  clear S2 h
  obtain ⟨c0_0, c0_1, c0_2, c0_3, c0_4, l0, hB⟩ := id S3
  clear SA LA AW c0_0 c0_1 c0_2 c0_3 c0_4 l0
  have K := HK.out
  have J := HJ.out
  go_wp2_with fail
  clear K J
  rw [HK.out]
  have HE : ∀ h : 2 < (⟨#[32, 40, 41, 44, 33, 42]⟩ : ByteArray).size, Utf8.encode (((⟨#[32, 40, 41, 44, 33, 42]⟩ : ByteArray)[2]'h).toNat : Int) = ⟨#[41]⟩ := fun _ => show Utf8.encode 41 = ⟨#[41]⟩ by decide +kernel
  simp only [HE]
  clear HE HK HJ
  have hS := bk_le hn hB
  go_region_with ((go_at_call 31; refine (PX.out _ (by first | exact hB.drew | exact hB | exact (hB.alloc hS _).drew | exact hB.drew.alloc hS _ | exact hB.alloc hS _)).mono ?_; rintro e w' ⟨rfl, hbb⟩; obtain ⟨hc, hf⟩ := bcell hbb; (first | (have hz2 : w3.heap.size < w'.heap.size := by (have := hbb.size; simp at this; omega)) | skip); have hBn : Below n w w' := by first | exact bk_call hn hB.drew hbb | exact bk_call hn (hB.drew.alloc hS _) hbb | exact bk_call hn (hB.alloc hS _).drew hbb | exact bk_call hn (hB.alloc hS _) hbb | exact bk_call hn hB hbb))
  · go_wp2
    go_ret
    exact ⟨rfl, by rw [hn]; exact bk_alloc hn hBn _⟩
  · go_wp2
    go_ret
    exact ⟨rfl, by rw [hn]; exact Below.setCell (Below.setCell (Below.setCell (Below.setCell (Below.setCell hBn hS _) hS _) hS _) hS _) hS _⟩
set_option maxRecDepth 100000 in
set_option maxHeartbeats 16000000 in
theorem depSpace_y3 (w : World) (hI : DpIn w) (d : Dp) (wd : d.wf) (at_ : Int) (wat : (Lit.int .i64 at_).wf = true) (sg : Int) (wsg : (Lit.int .i64 sg).wf = true) (la : longD d = false) (hm : dmayB d = true) (k : Nat) (hk : k ≤ (bs (dpText d)).size) (K : wrap64 ((IntKind.u64.wrap at_).tmod (((bs (dpText d)).size : Int) + 1)) = (k : Int)) (J : wrap64 ((IntKind.u64.wrap sg).tmod 6) = 3) : Calls Tryd.prog 9 #[d.val, .int .i64 at_, .int .i64 sg] w fun e w' => e = .returned (.bool true) ∧ Below w.heap.size w w' := by
  have LA := Lib.hid (fun W => long06_any d W wd)
  have AW := Lib.hid (fun W (h : Below w.heap.size w W) => awake06 W (hI.below h))
  have S0 := new_d1 d w
  dsimp only at S0
  have SA := Lib.hid (fun W (h : Below w.heap.size w W) => dshow_any d W wd (hI.below h))
  rw [la] at LA
  rw [showDV_yes hm] at SA
  have hln := dpText_len hm
  have hT := bs_size (dpText d)
  have hT2 : (bs (dpText d)).size ≤ 1000 := by omega
  have PN := Lib.hid (fun (X : ByteArray) W (h : Below w.heap.size w W) (hs : X.size ≤ 10000) (hx : dpOf (splitSp X.toList) = none) => show Calls Tryd.prog 31 #[.string X] W fun e w' => e = .returned (.tuple #[.agg #[.string ⟨#[]⟩, .int .u8 0, .int .i64 0, .string ⟨#[]⟩, .string ⟨#[]⟩], .int .i64 4]) ∧ Below W.heap.size W w' from by have h2 := dparse_any X W (by omega) (hI.below h); rw [hx] at h2; exact h2)
  have PT := dp_put hm k 44 (by decide) (by decide)
  have hTL : (bs (dpText d)).toList = dpText d := bs_toList _
  generalize dpText d = L at *
  generalize bs L = T at *
  subst hTL
  rw [← put_bs 44 hk] at PT
  have PX := Lib.hid (fun W h => PN.out _ W h (by rw [ByteArray.size_append, ByteArray.size_append, ByteArray.size_extract, ByteArray.size_extract]; show _ + 1 + _ ≤ 10000; omega) PT)
  clear PN PT la hI wd hm hln hT
  have q1 : ¬ 9223372036854775807 < k + 1 := by omega
  have q2 : ¬ 9223372036854775807 < k + 1 + (T.size - k) := by omega
  have k0 : (0 : Int) ≤ (k : Int) := by omega
  have k1 : (k : Int) ≤ (T.size : Int) := by omega
  have z1 : (T.extract 0 k).size ≤ 1000 := by rw [ByteArray.size_extract]; omega
  have z2 : (T.extract k T.size).size ≤ 1000 := by rw [ByteArray.size_extract]; omega
  have HK := Lib.hid K
  have HJ := Lib.hid J
  clear K J
  unfold Dp.val at *
  go_enter Tryd.func9, Tryd.ntmps9
  go_wp2_with fail
  go_at_call 36
  generalize (w.alloc (.cells #[.string (bs d.name), .int .u8 d.op, .int .i64 d.evr.epoch, .string (bs d.evr.ver), .string (bs d.evr.rel)] 40)) = W at *
  generalize hn : w.heap.size = n at *
  obtain ⟨c0_0, c0_1, c0_2, c0_3, c0_4, l0, hB⟩ := id S0
  refine (LA.out _).mono ?_
  rintro e1 w1 ⟨rfl, h⟩
  have S1 := keep_d1 S0 h
  clear S0 h c0_0 c0_1 c0_2 c0_3 c0_4 l0 hB
  obtain ⟨c0_0, c0_1, c0_2, c0_3, c0_4, l0, hB⟩ := id S1
  go_wp2_with fail
  go_at_call 30
  refine (AW.out _ hB).mono ?_
  rintro e2 w2 ⟨rfl, h⟩
  have S2 := keep_d1 S1 h
  clear c0_0 c0_1 c0_2 c0_3 c0_4 l0 hB
  clear S1 h
  obtain ⟨c0_0, c0_1, c0_2, c0_3, c0_4, l0, hB⟩ := id S2
  go_wp2_with fail
  go_at_call 41
  refine (SA.out _ hB).mono ?_
  rintro e3 w3 ⟨rfl, h⟩
  have S3 := keep_d1 S2 h
  clear c0_0 c0_1 c0_2 c0_3 c0_4 l0 hB
  clear S2 h
  obtain ⟨c0_0, c0_1, c0_2, c0_3, c0_4, l0, hB⟩ := id S3
  clear SA LA AW c0_0 c0_1 c0_2 c0_3 c0_4 l0
  have K := HK.out
  have J := HJ.out
  go_wp2_with fail
  clear K J
  rw [HK.out]
  have HE : ∀ h : 3 < (⟨#[32, 40, 41, 44, 33, 42]⟩ : ByteArray).size, Utf8.encode (((⟨#[32, 40, 41, 44, 33, 42]⟩ : ByteArray)[3]'h).toNat : Int) = ⟨#[44]⟩ := fun _ => show Utf8.encode 44 = ⟨#[44]⟩ by decide +kernel
  simp only [HE]
  clear HE HK HJ
  have hS := bk_le hn hB
  go_region_with ((go_at_call 31; refine (PX.out _ (by first | exact hB.drew | exact hB | exact (hB.alloc hS _).drew | exact hB.drew.alloc hS _ | exact hB.alloc hS _)).mono ?_; rintro e w' ⟨rfl, hbb⟩; obtain ⟨hc, hf⟩ := bcell hbb; (first | (have hz2 : w3.heap.size < w'.heap.size := by (have := hbb.size; simp at this; omega)) | skip); have hBn : Below n w w' := by first | exact bk_call hn hB.drew hbb | exact bk_call hn (hB.drew.alloc hS _) hbb | exact bk_call hn (hB.alloc hS _).drew hbb | exact bk_call hn (hB.alloc hS _) hbb | exact bk_call hn hB hbb))
  · go_wp2
    go_ret
    exact ⟨rfl, by rw [hn]; exact bk_alloc hn hBn _⟩
  · go_wp2
    go_ret
    exact ⟨rfl, by rw [hn]; exact Below.setCell (Below.setCell (Below.setCell (Below.setCell (Below.setCell hBn hS _) hS _) hS _) hS _) hS _⟩
set_option maxRecDepth 100000 in
set_option maxHeartbeats 16000000 in
theorem depSpace_y4 (w : World) (hI : DpIn w) (d : Dp) (wd : d.wf) (at_ : Int) (wat : (Lit.int .i64 at_).wf = true) (sg : Int) (wsg : (Lit.int .i64 sg).wf = true) (la : longD d = false) (hm : dmayB d = true) (k : Nat) (hk : k ≤ (bs (dpText d)).size) (K : wrap64 ((IntKind.u64.wrap at_).tmod (((bs (dpText d)).size : Int) + 1)) = (k : Int)) (J : wrap64 ((IntKind.u64.wrap sg).tmod 6) = 4) : Calls Tryd.prog 9 #[d.val, .int .i64 at_, .int .i64 sg] w fun e w' => e = .returned (.bool true) ∧ Below w.heap.size w w' := by
  have LA := Lib.hid (fun W => long06_any d W wd)
  have AW := Lib.hid (fun W (h : Below w.heap.size w W) => awake06 W (hI.below h))
  have S0 := new_d1 d w
  dsimp only at S0
  have SA := Lib.hid (fun W (h : Below w.heap.size w W) => dshow_any d W wd (hI.below h))
  rw [la] at LA
  rw [showDV_yes hm] at SA
  have hln := dpText_len hm
  have hT := bs_size (dpText d)
  have hT2 : (bs (dpText d)).size ≤ 1000 := by omega
  have PN := Lib.hid (fun (X : ByteArray) W (h : Below w.heap.size w W) (hs : X.size ≤ 10000) (hx : dpOf (splitSp X.toList) = none) => show Calls Tryd.prog 31 #[.string X] W fun e w' => e = .returned (.tuple #[.agg #[.string ⟨#[]⟩, .int .u8 0, .int .i64 0, .string ⟨#[]⟩, .string ⟨#[]⟩], .int .i64 4]) ∧ Below W.heap.size W w' from by have h2 := dparse_any X W (by omega) (hI.below h); rw [hx] at h2; exact h2)
  have PT := dp_put hm k 33 (by decide) (by decide)
  have hTL : (bs (dpText d)).toList = dpText d := bs_toList _
  generalize dpText d = L at *
  generalize bs L = T at *
  subst hTL
  rw [← put_bs 33 hk] at PT
  have PX := Lib.hid (fun W h => PN.out _ W h (by rw [ByteArray.size_append, ByteArray.size_append, ByteArray.size_extract, ByteArray.size_extract]; show _ + 1 + _ ≤ 10000; omega) PT)
  clear PN PT la hI wd hm hln hT
  have q1 : ¬ 9223372036854775807 < k + 1 := by omega
  have q2 : ¬ 9223372036854775807 < k + 1 + (T.size - k) := by omega
  have k0 : (0 : Int) ≤ (k : Int) := by omega
  have k1 : (k : Int) ≤ (T.size : Int) := by omega
  have z1 : (T.extract 0 k).size ≤ 1000 := by rw [ByteArray.size_extract]; omega
  have z2 : (T.extract k T.size).size ≤ 1000 := by rw [ByteArray.size_extract]; omega
  have HK := Lib.hid K
  have HJ := Lib.hid J
  clear K J
  unfold Dp.val at *
  go_enter Tryd.func9, Tryd.ntmps9
  go_wp2_with fail
  go_at_call 36
  generalize (w.alloc (.cells #[.string (bs d.name), .int .u8 d.op, .int .i64 d.evr.epoch, .string (bs d.evr.ver), .string (bs d.evr.rel)] 40)) = W at *
  generalize hn : w.heap.size = n at *
  obtain ⟨c0_0, c0_1, c0_2, c0_3, c0_4, l0, hB⟩ := id S0
  refine (LA.out _).mono ?_
  rintro e1 w1 ⟨rfl, h⟩
  have S1 := keep_d1 S0 h
  clear S0 h c0_0 c0_1 c0_2 c0_3 c0_4 l0 hB
  obtain ⟨c0_0, c0_1, c0_2, c0_3, c0_4, l0, hB⟩ := id S1
  go_wp2_with fail
  go_at_call 30
  refine (AW.out _ hB).mono ?_
  rintro e2 w2 ⟨rfl, h⟩
  have S2 := keep_d1 S1 h
  clear c0_0 c0_1 c0_2 c0_3 c0_4 l0 hB
  clear S1 h
  obtain ⟨c0_0, c0_1, c0_2, c0_3, c0_4, l0, hB⟩ := id S2
  go_wp2_with fail
  go_at_call 41
  refine (SA.out _ hB).mono ?_
  rintro e3 w3 ⟨rfl, h⟩
  have S3 := keep_d1 S2 h
  clear c0_0 c0_1 c0_2 c0_3 c0_4 l0 hB
  clear S2 h
  obtain ⟨c0_0, c0_1, c0_2, c0_3, c0_4, l0, hB⟩ := id S3
  clear SA LA AW c0_0 c0_1 c0_2 c0_3 c0_4 l0
  have K := HK.out
  have J := HJ.out
  go_wp2_with fail
  clear K J
  rw [HK.out]
  have HE : ∀ h : 4 < (⟨#[32, 40, 41, 44, 33, 42]⟩ : ByteArray).size, Utf8.encode (((⟨#[32, 40, 41, 44, 33, 42]⟩ : ByteArray)[4]'h).toNat : Int) = ⟨#[33]⟩ := fun _ => show Utf8.encode 33 = ⟨#[33]⟩ by decide +kernel
  simp only [HE]
  clear HE HK HJ
  have hS := bk_le hn hB
  go_region_with ((go_at_call 31; refine (PX.out _ (by first | exact hB.drew | exact hB | exact (hB.alloc hS _).drew | exact hB.drew.alloc hS _ | exact hB.alloc hS _)).mono ?_; rintro e w' ⟨rfl, hbb⟩; obtain ⟨hc, hf⟩ := bcell hbb; (first | (have hz2 : w3.heap.size < w'.heap.size := by (have := hbb.size; simp at this; omega)) | skip); have hBn : Below n w w' := by first | exact bk_call hn hB.drew hbb | exact bk_call hn (hB.drew.alloc hS _) hbb | exact bk_call hn (hB.alloc hS _).drew hbb | exact bk_call hn (hB.alloc hS _) hbb | exact bk_call hn hB hbb))
  · go_wp2
    go_ret
    exact ⟨rfl, by rw [hn]; exact bk_alloc hn hBn _⟩
  · go_wp2
    go_ret
    exact ⟨rfl, by rw [hn]; exact Below.setCell (Below.setCell (Below.setCell (Below.setCell (Below.setCell hBn hS _) hS _) hS _) hS _) hS _⟩
set_option maxRecDepth 100000 in
set_option maxHeartbeats 16000000 in
theorem depSpace_y5 (w : World) (hI : DpIn w) (d : Dp) (wd : d.wf) (at_ : Int) (wat : (Lit.int .i64 at_).wf = true) (sg : Int) (wsg : (Lit.int .i64 sg).wf = true) (la : longD d = false) (hm : dmayB d = true) (k : Nat) (hk : k ≤ (bs (dpText d)).size) (K : wrap64 ((IntKind.u64.wrap at_).tmod (((bs (dpText d)).size : Int) + 1)) = (k : Int)) (J : wrap64 ((IntKind.u64.wrap sg).tmod 6) = 5) : Calls Tryd.prog 9 #[d.val, .int .i64 at_, .int .i64 sg] w fun e w' => e = .returned (.bool true) ∧ Below w.heap.size w w' := by
  have LA := Lib.hid (fun W => long06_any d W wd)
  have AW := Lib.hid (fun W (h : Below w.heap.size w W) => awake06 W (hI.below h))
  have S0 := new_d1 d w
  dsimp only at S0
  have SA := Lib.hid (fun W (h : Below w.heap.size w W) => dshow_any d W wd (hI.below h))
  rw [la] at LA
  rw [showDV_yes hm] at SA
  have hln := dpText_len hm
  have hT := bs_size (dpText d)
  have hT2 : (bs (dpText d)).size ≤ 1000 := by omega
  have PN := Lib.hid (fun (X : ByteArray) W (h : Below w.heap.size w W) (hs : X.size ≤ 10000) (hx : dpOf (splitSp X.toList) = none) => show Calls Tryd.prog 31 #[.string X] W fun e w' => e = .returned (.tuple #[.agg #[.string ⟨#[]⟩, .int .u8 0, .int .i64 0, .string ⟨#[]⟩, .string ⟨#[]⟩], .int .i64 4]) ∧ Below W.heap.size W w' from by have h2 := dparse_any X W (by omega) (hI.below h); rw [hx] at h2; exact h2)
  have PT := dp_put hm k 42 (by decide) (by decide)
  have hTL : (bs (dpText d)).toList = dpText d := bs_toList _
  generalize dpText d = L at *
  generalize bs L = T at *
  subst hTL
  rw [← put_bs 42 hk] at PT
  have PX := Lib.hid (fun W h => PN.out _ W h (by rw [ByteArray.size_append, ByteArray.size_append, ByteArray.size_extract, ByteArray.size_extract]; show _ + 1 + _ ≤ 10000; omega) PT)
  clear PN PT la hI wd hm hln hT
  have q1 : ¬ 9223372036854775807 < k + 1 := by omega
  have q2 : ¬ 9223372036854775807 < k + 1 + (T.size - k) := by omega
  have k0 : (0 : Int) ≤ (k : Int) := by omega
  have k1 : (k : Int) ≤ (T.size : Int) := by omega
  have z1 : (T.extract 0 k).size ≤ 1000 := by rw [ByteArray.size_extract]; omega
  have z2 : (T.extract k T.size).size ≤ 1000 := by rw [ByteArray.size_extract]; omega
  have HK := Lib.hid K
  have HJ := Lib.hid J
  clear K J
  unfold Dp.val at *
  go_enter Tryd.func9, Tryd.ntmps9
  go_wp2_with fail
  go_at_call 36
  generalize (w.alloc (.cells #[.string (bs d.name), .int .u8 d.op, .int .i64 d.evr.epoch, .string (bs d.evr.ver), .string (bs d.evr.rel)] 40)) = W at *
  generalize hn : w.heap.size = n at *
  obtain ⟨c0_0, c0_1, c0_2, c0_3, c0_4, l0, hB⟩ := id S0
  refine (LA.out _).mono ?_
  rintro e1 w1 ⟨rfl, h⟩
  have S1 := keep_d1 S0 h
  clear S0 h c0_0 c0_1 c0_2 c0_3 c0_4 l0 hB
  obtain ⟨c0_0, c0_1, c0_2, c0_3, c0_4, l0, hB⟩ := id S1
  go_wp2_with fail
  go_at_call 30
  refine (AW.out _ hB).mono ?_
  rintro e2 w2 ⟨rfl, h⟩
  have S2 := keep_d1 S1 h
  clear c0_0 c0_1 c0_2 c0_3 c0_4 l0 hB
  clear S1 h
  obtain ⟨c0_0, c0_1, c0_2, c0_3, c0_4, l0, hB⟩ := id S2
  go_wp2_with fail
  go_at_call 41
  refine (SA.out _ hB).mono ?_
  rintro e3 w3 ⟨rfl, h⟩
  have S3 := keep_d1 S2 h
  clear c0_0 c0_1 c0_2 c0_3 c0_4 l0 hB
  clear S2 h
  obtain ⟨c0_0, c0_1, c0_2, c0_3, c0_4, l0, hB⟩ := id S3
  clear SA LA AW c0_0 c0_1 c0_2 c0_3 c0_4 l0
  have K := HK.out
  have J := HJ.out
  go_wp2_with fail
  clear K J
  rw [HK.out]
  have HE : ∀ h : 5 < (⟨#[32, 40, 41, 44, 33, 42]⟩ : ByteArray).size, Utf8.encode (((⟨#[32, 40, 41, 44, 33, 42]⟩ : ByteArray)[5]'h).toNat : Int) = ⟨#[42]⟩ := fun _ => show Utf8.encode 42 = ⟨#[42]⟩ by decide +kernel
  simp only [HE]
  clear HE HK HJ
  have hS := bk_le hn hB
  go_region_with ((go_at_call 31; refine (PX.out _ (by first | exact hB.drew | exact hB | exact (hB.alloc hS _).drew | exact hB.drew.alloc hS _ | exact hB.alloc hS _)).mono ?_; rintro e w' ⟨rfl, hbb⟩; obtain ⟨hc, hf⟩ := bcell hbb; (first | (have hz2 : w3.heap.size < w'.heap.size := by (have := hbb.size; simp at this; omega)) | skip); have hBn : Below n w w' := by first | exact bk_call hn hB.drew hbb | exact bk_call hn (hB.drew.alloc hS _) hbb | exact bk_call hn (hB.alloc hS _).drew hbb | exact bk_call hn (hB.alloc hS _) hbb | exact bk_call hn hB hbb))
  · go_wp2
    go_ret
    exact ⟨rfl, by rw [hn]; exact bk_alloc hn hBn _⟩
  · go_wp2
    go_ret
    exact ⟨rfl, by rw [hn]; exact Below.setCell (Below.setCell (Below.setCell (Below.setCell (Below.setCell hBn hS _) hS _) hS _) hS _) hS _⟩
theorem rem_at (a : Int) (m : Nat) (h0 : 0 < m) (h1 : m ≤ 1000000) : ∃ k : Nat, k < m ∧ wrap64 ((IntKind.u64.wrap a).tmod (m : Int)) = (k : Int) := by
  have hu : 0 ≤ IntKind.u64.wrap a := by rw [IntKind.wrap_u64]; omega
  obtain ⟨u, hu⟩ := Int.eq_ofNat_of_zero_le hu
  rw [hu, ← Int.ofNat_tmod]
  have := Nat.mod_lt u h0
  exact ⟨u % m, this, by unfold wrap64; omega⟩
theorem depSpace_row (w : World) (hI : DpIn w) (d : Dp) (wd : d.wf) (at_ : Int) (wat : (Lit.int .i64 at_).wf = true) (sg : Int) (wsg : (Lit.int .i64 sg).wf = true) : Calls Tryd.prog 9 #[d.val, .int .i64 at_, .int .i64 sg] w fun e w' => e = .returned (.bool true) ∧ Below w.heap.size w w' := by
  cases la : longD d with
  | true => exact depSpace_a w hI d wd at_ wat sg wsg la
  | false =>
    cases hm : dmayB d with
    | false => exact depSpace_n w hI d wd at_ wat sg wsg la hm
    | true =>
      have hln := dpText_len hm
      have hT := bs_size (dpText d)
      obtain ⟨k, hk, K⟩ := rem_at at_ ((bs (dpText d)).size + 1) (by omega) (by omega)
      obtain ⟨j, hj, J⟩ := rem_at sg 6 (by decide) (by decide)
      rw [show (((bs (dpText d)).size + 1 : Nat) : Int) = ((bs (dpText d)).size : Int) + 1 from by omega] at K
      rw [show ((6 : Nat) : Int) = 6 from rfl] at J
      rcases (show j = 0 ∨ j = 1 ∨ j = 2 ∨ j = 3 ∨ j = 4 ∨ j = 5 by omega) with rfl | rfl | rfl | rfl | rfl | rfl
      · exact depSpace_y0 w hI d wd at_ wat sg wsg la hm k (by omega) K J
      · exact depSpace_y1 w hI d wd at_ wat sg wsg la hm k (by omega) K J
      · exact depSpace_y2 w hI d wd at_ wat sg wsg la hm k (by omega) K J
      · exact depSpace_y3 w hI d wd at_ wat sg wsg la hm k (by omega) K J
      · exact depSpace_y4 w hI d wd at_ wat sg wsg la hm k (by omega) K J
      · exact depSpace_y5 w hI d wd at_ wat sg wsg la hm k (by omega) K J
end Go.Proofs.YtmmebheciolnoaaDoor
