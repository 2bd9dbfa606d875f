/- RichWhole: what is read is whole; a place is within the text, or at its end; with spaces more about it a text is read the same. -/
import Derived.Test.YtlfnihnegheaaaaDoorRcD
namespace Go.Proofs.YtlfnihnegheaaaaDoor
open Go.RowKit Go.Shelf
set_option linter.unusedVariables false

theorem sp_size (s : ByteArray) : (⟨#[32, 32]⟩ ++ s ++ ⟨#[32]⟩ : ByteArray).toList = 32 :: 32 :: (s.toList ++ [32]) := by
  rw [toList_append, toList_append]
  have h1 : (⟨#[32, 32]⟩ : ByteArray).toList = [32, 32] := bs_toList [32, 32]
  have h2 : (⟨#[32]⟩ : ByteArray).toList = [32] := bs_toList [32]
  rw [h1, h2]
  simp
set_option maxRecDepth 100000 in
set_option maxHeartbeats 16000000 in
theorem richWhole_row (w : World) (hI : RichIn w) (s : ByteArray) (hs : s.size ≤ maxLen) : Calls Tryd.prog 5 #[.string s] w fun e w' => e = .returned (.bool true) ∧ Below w.heap.size w w' := by
  have HI := Lib.hid hI
  have HS := Lib.hid hs
  have AW := Lib.hid (fun W (hW : Below w.heap.size w W) => rawake W (hI.below hW))
  have PA := Lib.hid (fun W (hW : Below w.heap.size w W) => rparse_any s W hs (hI.below hW))
  unfold ParsePost at PA
  unfold RV.val at PA
  by_cases hl : 4000 < s.size
  · have hl' : (4000 : Int) < (s.size : Int) := by omega
    clear hI hs hl
    go_enter Tryd.func5, Tryd.ntmps5
    go_wp2_with fail
    go_at_call 13
    refine (AW.out _ (Below.refl _ _)).mono ?_
    rintro en w1 ⟨rfl, hb⟩
    have HB := Lib.hid hb
    clear hb
    go_wp2_with fail
    go_ret
    exact ⟨rfl, HB.out⟩
  · have hl' : ¬ (4000 : Int) < (s.size : Int) := by omega
    have hl'' : decide ((4000 : Int) < (s.size : Int)) = false := decide_eq_false hl'
    cases hp : (parseL s.toList).1 with
    | none =>
      obtain ⟨h1, h2⟩ := parseL_none (by rw [size_toList]; omega) hp
      rw [size_toList] at h1
      obtain ⟨r0, p, n, hpl⟩ : ∃ r0 p n, parseL s.toList = (r0, p, n) := ⟨_, _, _, rfl⟩
      rw [hpl] at PA h1 h2
      dsimp only at PA h1 h2
      have hn0 : (n == 0) = false := by simp only [beq_eq_false_iff_ne]; omega
      have hp0 : (0 : Int) ≤ (p : Int) := by omega
      have hp1 : (p : Int) ≤ (s.size : Int) := by omega
      have hnn : (n == 4) = true ∨ ((n == 4) = false ∧ (n == 21) = true) ∨ ((n == 4) = false ∧ (n == 21) = false ∧ (n == 40) = true) := by
        rcases h2 with rfl | rfl | rfl <;> decide
      clear hI hs hl hp hpl h1 h2
      rcases hnn with hnn | ⟨hnn, hnn2⟩ | ⟨hnn, hnn2, hnn3⟩
      all_goals
        go_enter Tryd.func5, Tryd.ntmps5
        go_wp2_with fail
        go_at_call 13
        refine (AW.out _ (Below.refl _ _)).mono ?_
        rintro en w1 ⟨rfl, hb⟩
        have HB := Lib.hid hb
        clear hb
        go_wp2_with fail
        go_at_call 8
        refine (PA.out _ HB.out).mono ?_
        rintro en w2 ⟨rv, _, rfl, _, hb2⟩
        have HB2 := Lib.hid ((HB.out.trans (hb2.mono HB.out.size)).alloc (Nat.le_trans HB.out.size hb2.size) (.cells #[.int .u8 rv.kind, .string (bs rv.dep.name), .int .u8 rv.dep.op, .int .i64 rv.dep.evr.epoch, .string (bs rv.dep.evr.ver), .string (bs rv.dep.evr.rel), .slice rv.addr rv.args.length rv.cap] 29))
        clear hb2
        go_wp2_with fail
        go_ret
        exact ⟨rfl, HB2.out⟩
    | some t =>
      have hpl := parseL_some hp
      have hwh := (parseL_iff.1 hp).2.1
      have hps := parseL_some (parseL_spaces (by rw [size_toList]; omega) hp)
      rw [hpl] at PA
      obtain ⟨s2, hs2⟩ : ∃ s2 : ByteArray, s2 = ⟨#[32, 32]⟩ ++ s ++ ⟨#[32]⟩ := ⟨_, rfl⟩
      have hs2l : s2.toList = 32 :: 32 :: (s.toList ++ [32]) := by rw [hs2]; exact sp_size s
      have hs2z : s2.size ≤ maxLen := by rw [← size_toList, hs2l]; simp only [List.length_cons, List.length_append, List.length_nil, size_toList]; unfold maxLen; omega
      have PB := Lib.hid (fun W (hW : Below w.heap.size w W) => rparse_any s2 W hs2z (hI.below hW))
      unfold ParsePost at PB
      unfold RV.val at PB
      rw [hs2l, hps] at PB
      dsimp only at PA PB
      have HWH := Lib.hid hwh
      have HPT := Lib.hid (show t.parts ≤ 1000000 by unfold RT.whole at hwh; simp only [Bool.and_eq_true, decide_eq_true_eq] at hwh; omega)
      have HS2 := Lib.hid hs2
      clear hI hs hl hp hpl hwh hps hs2l hs2z hs2
      go_enter Tryd.func5, Tryd.ntmps5
      go_wp2_with fail
      go_at_call 13
      refine (AW.out _ (Below.refl _ _)).mono ?_
      rintro en w1 ⟨rfl, hb⟩
      have HB := Lib.hid hb
      clear hb
      go_wp2_with fail
      go_at_call 8
      refine (PA.out _ HB.out).mono ?_
      rintro en w2 ⟨rv, hrt, rfl, hT, hb2⟩
      have HB2 := Lib.hid (HB.out.trans (hb2.mono HB.out.size))
      have HRT := Lib.hid (show rv.tree = t from hrt)
      have HT := Lib.hid hT
      clear hb2 hrt hT
      go_wp2_with fail
      rw [← HS2.out]
      have X2 := Lib.hid (Box7.new w2 _ _ _ _ _ _ _ 29 : Box7 w2.heap.size (.int .u8 rv.kind) (.string (bs rv.dep.name)) (.int .u8 rv.dep.op) (.int .i64 rv.dep.evr.epoch) (.string (bs rv.dep.evr.ver)) (.string (bs rv.dep.evr.rel)) (.slice rv.addr rv.args.length rv.cap) (w2.alloc (.cells #[.int .u8 rv.kind, .string (bs rv.dep.name), .int .u8 rv.dep.op, .int .i64 rv.dep.evr.epoch, .string (bs rv.dep.evr.ver), .string (bs rv.dep.evr.rel), .slice rv.addr rv.args.length rv.cap] 29)))
      refine (PB.out _ (HB2.out.alloc HB2.out.size _)).mono ?_
      rintro en w3 ⟨rv2, hrt2, rfl, hT2, hb3⟩
      have hzA : (w2.alloc (.cells #[.int .u8 rv.kind, .string (bs rv.dep.name), .int .u8 rv.dep.op, .int .i64 rv.dep.evr.epoch, .string (bs rv.dep.evr.ver), .string (bs rv.dep.evr.rel), .slice rv.addr rv.args.length rv.cap] 29)).heap.size = w2.heap.size + 1 := by simp
      have hz3 : w2.heap.size < w3.heap.size := by have := hb3.size; omega
      have HB3 := Lib.hid ((HB2.out.alloc HB2.out.size (.cells #[.int .u8 rv.kind, .string (bs rv.dep.name), .int .u8 rv.dep.op, .int .i64 rv.dep.evr.epoch, .string (bs rv.dep.evr.ver), .string (bs rv.dep.evr.rel), .slice rv.addr rv.args.length rv.cap] 29)).trans (hb3.mono (by have := HB2.out.size; omega)))
      have HT3 := Lib.hid (((HT.out.keeps ((Below.refl _ _).alloc (Nat.le_refl _) (.cells #[.int .u8 rv.kind, .string (bs rv.dep.name), .int .u8 rv.dep.op, .int .i64 rv.dep.evr.epoch, .string (bs rv.dep.evr.ver), .string (bs rv.dep.evr.rel), .slice rv.addr rv.args.length rv.cap] 29))).keeps (hb3.mono (by omega))).more (Nat.le_of_lt hz3))
      have HT2 := Lib.hid hT2
      have HRT2 := Lib.hid (show rv2.tree = t from hrt2)
      have X3 := Lib.hid (X2.out.past (hb3.mono (X2.out.2.2)))
      have Y3 := Lib.hid (Box7.new w3 _ _ _ _ _ _ _ 29 : Box7 w3.heap.size (.int .u8 rv2.kind) (.string (bs rv2.dep.name)) (.int .u8 rv2.dep.op) (.int .i64 rv2.dep.evr.epoch) (.string (bs rv2.dep.evr.ver)) (.string (bs rv2.dep.evr.rel)) (.slice rv2.addr rv2.args.length rv2.cap) (w3.alloc (.cells #[.int .u8 rv2.kind, .string (bs rv2.dep.name), .int .u8 rv2.dep.op, .int .i64 rv2.dep.evr.epoch, .string (bs rv2.dep.evr.ver), .string (bs rv2.dep.evr.rel), .slice rv2.addr rv2.args.length rv2.cap] 29)))
      have X4 := Lib.hid (X3.out.past ((Below.refl _ _).alloc (by have := X3.out.2.2; omega) (.cells #[.int .u8 rv2.kind, .string (bs rv2.dep.name), .int .u8 rv2.dep.op, .int .i64 rv2.dep.evr.epoch, .string (bs rv2.dep.evr.ver), .string (bs rv2.dep.evr.rel), .slice rv2.addr rv2.args.length rv2.cap] 29)))
      have HB4 := Lib.hid (HB3.out.alloc HB3.out.size (.cells #[.int .u8 rv2.kind, .string (bs rv2.dep.name), .int .u8 rv2.dep.op, .int .i64 rv2.dep.evr.epoch, .string (bs rv2.dep.evr.ver), .string (bs rv2.dep.evr.rel), .slice rv2.addr rv2.args.length rv2.cap] 29))
      have HTA := Lib.hid ((HT3.out.keeps ((Below.refl _ _).alloc (Nat.le_refl _) (.cells #[.int .u8 rv2.kind, .string (bs rv2.dep.name), .int .u8 rv2.dep.op, .int .i64 rv2.dep.evr.epoch, .string (bs rv2.dep.evr.ver), .string (bs rv2.dep.evr.rel), .slice rv2.addr rv2.args.length rv2.cap] 29))).more (by simp) : RTree (w3.alloc (.cells #[.int .u8 rv2.kind, .string (bs rv2.dep.name), .int .u8 rv2.dep.op, .int .i64 rv2.dep.evr.epoch, .string (bs rv2.dep.evr.ver), .string (bs rv2.dep.evr.rel), .slice rv2.addr rv2.args.length rv2.cap] 29)).heap.size (w3.alloc (.cells #[.int .u8 rv2.kind, .string (bs rv2.dep.name), .int .u8 rv2.dep.op, .int .i64 rv2.dep.evr.epoch, .string (bs rv2.dep.evr.ver), .string (bs rv2.dep.evr.rel), .slice rv2.addr rv2.args.length rv2.cap] 29)) rv)
      have HTB := Lib.hid ((HT2.out.keeps ((Below.refl _ _).alloc (Nat.le_refl _) (.cells #[.int .u8 rv2.kind, .string (bs rv2.dep.name), .int .u8 rv2.dep.op, .int .i64 rv2.dep.evr.epoch, .string (bs rv2.dep.evr.ver), .string (bs rv2.dep.evr.rel), .slice rv2.addr rv2.args.length rv2.cap] 29))).more (by simp) : RTree (w3.alloc (.cells #[.int .u8 rv2.kind, .string (bs rv2.dep.name), .int .u8 rv2.dep.op, .int .i64 rv2.dep.evr.epoch, .string (bs rv2.dep.evr.ver), .string (bs rv2.dep.evr.rel), .slice rv2.addr rv2.args.length rv2.cap] 29)).heap.size (w3.alloc (.cells #[.int .u8 rv2.kind, .string (bs rv2.dep.name), .int .u8 rv2.dep.op, .int .i64 rv2.dep.evr.epoch, .string (bs rv2.dep.evr.ver), .string (bs rv2.dep.evr.rel), .slice rv2.addr rv2.args.length rv2.cap] 29)) rv2)
      clear hb3 hrt2 hT2 hz3 hzA
      obtain ⟨W4, hW4⟩ : ∃ W4, W4 = w3.alloc (.cells #[.int .u8 rv2.kind, .string (bs rv2.dep.name), .int .u8 rv2.dep.op, .int .i64 rv2.dep.evr.epoch, .string (bs rv2.dep.evr.ver), .string (bs rv2.dep.evr.rel), .slice rv2.addr rv2.args.length rv2.cap] 29) := ⟨_, rfl⟩
      have HW4 := Lib.hid hW4
      rw [← hW4] at X4 Y3 HB4 HTA HTB
      have WH := rwhole_any rv W4 (by rw [HRT.out]; exact HPT.out) HTA.out (HI.out.below HB4.out)
      rw [HRT.out, HWH.out] at WH
      unfold RV.val at WH
      have HWHL := Lib.hid WH
      have hx7 : ∀ W, Box7 w2.heap.size (.int .u8 rv.kind) (.string (bs rv.dep.name)) (.int .u8 rv.dep.op) (.int .i64 rv.dep.evr.epoch) (.string (bs rv.dep.evr.ver)) (.string (bs rv.dep.evr.rel)) (.slice rv.addr rv.args.length rv.cap) W → True := fun _ _ => trivial
      clear hW4 WH hx7
      obtain ⟨⟨a0, a1, a2, a3, a4, a5, a6⟩, _, al⟩ := id X4.out
      rw [HW4.out] at a0 a1 a2 a3 a4 a5 a6
      go_wp2_with fail
      go_at_call 12
      rw [← HW4.out]
      refine HWHL.out.mono ?_
      rintro en w5 ⟨rfl, hb5⟩
      obtain ⟨⟨c0, c1, c2, c3, c4, c5, c6⟩, _, _⟩ := X4.out.past (hb5.mono X4.out.2.2)
      obtain ⟨⟨d0, d1, d2, d3, d4, d5, d6⟩, _, _⟩ := Y3.out.past (hb5.mono Y3.out.2.2)
      have SM := rsame_any rv2.ht rv2 rv w5 (Nat.le_refl _) ((HTB.out.keeps hb5).more hb5.size) ((HTA.out.keeps hb5).more hb5.size)
      rw [HRT.out, HRT2.out, sameT_self] at SM
      unfold RV.val at SM
      have HSM := Lib.hid SM
      have HB5 := Lib.hid (HB4.out.trans (hb5.mono HB4.out.size))
      clear SM hb5 a0 a1 a2 a3 a4 a5 a6
      go_wp2_with fail
      go_at_call 15
      refine HSM.out.mono ?_
      rintro en w6 ⟨rfl, hb6⟩
      have HB6 := Lib.hid (HB5.out.trans (hb6.mono HB5.out.size))
      clear hb6
      go_wp2_with fail
      go_ret
      exact ⟨rfl, HB6.out⟩
end Go.Proofs.YtlfnihnegheaaaaDoor
