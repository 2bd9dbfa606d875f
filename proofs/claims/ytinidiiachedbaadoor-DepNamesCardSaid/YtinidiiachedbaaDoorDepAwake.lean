/- Walks: the examples of dep's statements. -/
import Derived.Test.YtinidiiachedbaaDoorDepLaw
namespace Go.Proofs.YtinidiiachedbaaDoor
open Go.RowKit Go.Shelf

set_option maxRecDepth 100000 in
set_option maxHeartbeats 16000000 in
theorem awake06 (w : World) (hI : DpIn w) : Calls Tryd.prog 26 #[] w fun e w' => e = .returned (.bool true) ∧ Below w.heap.size w w' := by
  have WD := Lib.hid (fun W (h : Below w.heap.size w W) => dwords_any awD W ⟨by decide, by decide, by decide, by decide, by decide⟩ (hI.below h))
  unfold WordsPost at WD
  rw [(wordsL_yes awD_may).1, (wordsL_yes awD_may).2, awD_words] at WD
  simp only [List.map_cons, List.map_nil, List.length_cons, List.length_nil] at WD
  unfold Dp.val awD at WD
  dsimp only at WD
  have PG := Lib.hid (fun W (h : Below w.heap.size w W) => parse_some ⟨#[108, 105, 98, 102, 111, 111, 32, 62, 61, 32, 50, 58, 49, 46, 52, 45, 49]⟩ awD W (hI.below h) (by decide) (by rw [show (⟨#[108, 105, 98, 102, 111, 111, 32, 62, 61, 32, 50, 58, 49, 46, 52, 45, 49]⟩ : ByteArray).toList = [108, 105, 98, 102, 111, 111, 32, 62, 61, 32, 50, 58, 49, 46, 52, 45, 49] from bs_toList _, ← awD_text]; exact dp_back awD_may))
  unfold awD at PG
  dsimp only at PG
  have P1 := Lib.hid (fun W (h : Below w.heap.size w W) => parse_none ⟨#[47, 117, 115, 114, 47, 98, 105, 110, 47, 115, 104, 32, 61, 32, 49]⟩ W (hI.below h) (by decide) (by rw [show (⟨#[47, 117, 115, 114, 47, 98, 105, 110, 47, 115, 104, 32, 61, 32, 49]⟩ : ByteArray).toList = [47, 117, 115, 114, 47, 98, 105, 110, 47, 115, 104, 32, 61, 32, 49] from bs_toList _]; exact none_dmay (n := [47, 117, 115, 114, 47, 98, 105, 110, 47, 115, 104]) (o := [61]) (v := [49]) rfl ev_one (by decide +kernel)))
  have P2 := Lib.hid (fun W (h : Below w.heap.size w W) => parse_none ⟨#[105, 102]⟩ W (hI.below h) (by decide) (by rw [show (⟨#[105, 102]⟩ : ByteArray).toList = [105, 102] from bs_toList _]; exact none_one (n := [105, 102]) rfl (by decide +kernel)))
  have P3 := Lib.hid (fun W (h : Below w.heap.size w W) => parse_none ⟨#[108, 105, 98, 102, 111, 111, 32, 32, 61, 32, 49]⟩ W (hI.below h) (by decide) (by rw [show (⟨#[108, 105, 98, 102, 111, 111, 32, 32, 61, 32, 49]⟩ : ByteArray).toList = [108, 105, 98, 102, 111, 111, 32, 32, 61, 32, 49] from bs_toList _]; exact none_len (by decide +kernel) (by decide +kernel)))
  have FI := Lib.hid (fun W (h : Below w.heap.size w W) => dfile_any ⟨#[47, 117, 115, 114, 47, 98, 105, 110, 47, 115, 104]⟩ W (by decide) (hI.below h))
  rw [show (⟨#[47, 117, 115, 114, 47, 98, 105, 110, 47, 115, 104]⟩ : ByteArray).toList = [47, 117, 115, 114, 47, 98, 105, 110, 47, 115, 104] from bs_toList _, show fileB [47, 117, 115, 114, 47, 98, 105, 110, 47, 115, 104] = true from by decide +kernel] at FI
  have TX := Lib.hid (fun A B c d W (h1 : TR W A [⟨#[108, 105, 98, 102, 111, 111]⟩, ⟨#[62, 61]⟩, ⟨#[50, 58, 49, 46, 52, 45, 49]⟩]) (h2 : TR W B [⟨#[108, 105, 98, 102, 111, 111]⟩, ⟨#[62, 61]⟩, ⟨#[50, 58, 49, 46, 52, 45, 49]⟩]) => show Calls Tryd.prog 54 #[.slice A 3 c, .slice B 3 d] W fun e w' => e = .returned (.bool (decide (([⟨#[108, 105, 98, 102, 111, 111]⟩, ⟨#[62, 61]⟩, ⟨#[50, 58, 49, 46, 52, 45, 49]⟩] : List ByteArray) = [⟨#[108, 105, 98, 102, 111, 111]⟩, ⟨#[62, 61]⟩, ⟨#[50, 58, 49, 46, 52, 45, 49]⟩]))) ∧ Below W.heap.size W w' from textsR06_any A B c d _ _ W (by decide) (by decide) h1 h2)
  rw [show decide (([⟨#[108, 105, 98, 102, 111, 111]⟩, ⟨#[62, 61]⟩, ⟨#[50, 58, 49, 46, 52, 45, 49]⟩] : List ByteArray) = [⟨#[108, 105, 98, 102, 111, 111]⟩, ⟨#[62, 61]⟩, ⟨#[50, 58, 49, 46, 52, 45, 49]⟩]) = true from decide_eq_true rfl] at TX
  clear hI
  have B0 : Below w.heap.size w w := Below.refl _ _
  rw [show bs [108, 105, 98, 102, 111, 111] = (⟨#[108, 105, 98, 102, 111, 111]⟩ : ByteArray) from rfl, show bs [62, 61] = (⟨#[62, 61]⟩ : ByteArray) from rfl, show bs [50, 58, 49, 46, 52, 45, 49] = (⟨#[50, 58, 49, 46, 52, 45, 49]⟩ : ByteArray) from rfl, show bs [49, 46, 52] = (⟨#[49, 46, 52]⟩ : ByteArray) from rfl, show bs [49] = (⟨#[49]⟩ : ByteArray) from rfl] at WD
  rw [show bs [108, 105, 98, 102, 111, 111] = (⟨#[108, 105, 98, 102, 111, 111]⟩ : ByteArray) from rfl, show bs [49, 46, 52] = (⟨#[49, 46, 52]⟩ : ByteArray) from rfl, show bs [49] = (⟨#[49]⟩ : ByteArray) from rfl] at PG
  go_enter Tryd.func26, Tryd.ntmps26
  go_wp2_with fail
  go_at_call 22
  refine (WD.out _ B0).mono ?_
  rintro e1 w1 ⟨A, c, rfl, hT, hcap, h⟩
  have B1 := B0.trans (h.mono B0.size)
  clear h hcap WD
  go_wp2_with fail
  go_at_call 19
  refine (PG.out _ B1).mono ?_
  rintro e2 w2 ⟨rfl, h⟩
  have B2 := B1.trans (h.mono B1.size)
  have T2 := hT.calls h
  clear h hT PG
  have S0 := box_d5 B2 B2.size (.string ⟨#[108, 105, 98, 102, 111, 111]⟩) (.int .u8 6) (.int .i64 2) (.string ⟨#[49, 46, 52]⟩) (.string ⟨#[49]⟩)
  dsimp only at S0
  have T3 := T2.calls ((Below.refl w2.heap.size w2).alloc (Nat.le_refl _) (.cells #[.string ⟨#[108, 105, 98, 102, 111, 111]⟩, .int .u8 6, .int .i64 2, .string ⟨#[49, 46, 52]⟩, .string ⟨#[49]⟩] 37))
  have T := Lib.hid T3
  clear T2 T3
  go_wp2_with fail
  go_at_call 19
  generalize w2.alloc (.cells #[.string ⟨#[108, 105, 98, 102, 111, 111]⟩, .int .u8 6, .int .i64 2, .string ⟨#[49, 46, 52]⟩, .string ⟨#[49]⟩] 37) = V at *
  generalize w2.heap.size = m at *
  clear B2
  obtain ⟨c1, c2, lm, hB⟩ := id S0
  refine (P1.out _ hB).mono ?_
  rintro e w5 ⟨rfl, h⟩
  have S1 := keep_d5 S0 h
  have U := Lib.hid (T.out.calls h)
  clear S0 h T c1 c2 lm hB P1
  have S2 := more_d5 S1 (.cells #[.string ⟨#[]⟩, .int .u8 0, .int .i64 0, .string ⟨#[]⟩, .string ⟨#[]⟩] 37)
  have T := Lib.hid (U.out.calls ((Below.refl w5.heap.size w5).alloc (Nat.le_refl _) (.cells #[.string ⟨#[]⟩, .int .u8 0, .int .i64 0, .string ⟨#[]⟩, .string ⟨#[]⟩] 37)))
  clear S1 U
  go_wp2_with fail
  go_at_call 19
  generalize w5.alloc (.cells #[.string ⟨#[]⟩, .int .u8 0, .int .i64 0, .string ⟨#[]⟩, .string ⟨#[]⟩] 37) = V1 at *
  have S0 := S2
  clear S2
  obtain ⟨c1, c2, lm, hB⟩ := id S0
  refine (P2.out _ hB).mono ?_
  rintro e w6 ⟨rfl, h⟩
  have S1 := keep_d5 S0 h
  have U := Lib.hid (T.out.calls h)
  clear S0 h T c1 c2 lm hB P2
  have S2 := more_d5 S1 (.cells #[.string ⟨#[]⟩, .int .u8 0, .int .i64 0, .string ⟨#[]⟩, .string ⟨#[]⟩] 37)
  have T := Lib.hid (U.out.calls ((Below.refl w6.heap.size w6).alloc (Nat.le_refl _) (.cells #[.string ⟨#[]⟩, .int .u8 0, .int .i64 0, .string ⟨#[]⟩, .string ⟨#[]⟩] 37)))
  clear S1 U
  go_wp2_with fail
  go_at_call 19
  generalize w6.alloc (.cells #[.string ⟨#[]⟩, .int .u8 0, .int .i64 0, .string ⟨#[]⟩, .string ⟨#[]⟩] 37) = V2 at *
  have S0 := S2
  clear S2
  obtain ⟨c1, c2, lm, hB⟩ := id S0
  refine (P3.out _ hB).mono ?_
  rintro e w7 ⟨rfl, h⟩
  have S1 := keep_d5 S0 h
  have U := Lib.hid (T.out.calls h)
  clear S0 h T c1 c2 lm hB P3
  have S2 := more_d5 S1 (.cells #[.string ⟨#[]⟩, .int .u8 0, .int .i64 0, .string ⟨#[]⟩, .string ⟨#[]⟩] 37)
  have T := Lib.hid (U.out.calls ((Below.refl w7.heap.size w7).alloc (Nat.le_refl _) (.cells #[.string ⟨#[]⟩, .int .u8 0, .int .i64 0, .string ⟨#[]⟩, .string ⟨#[]⟩] 37)))
  clear S1 U
  go_wp2_with fail
  go_at_call 54
  have hs3 : w7.heap.size + 1 = (w7.alloc (.cells #[.string ⟨#[]⟩, .int .u8 0, .int .i64 0, .string ⟨#[]⟩, .string ⟨#[]⟩] 37)).heap.size := by simp
  rw [hs3]
  clear hs3
  generalize w7.alloc (.cells #[.string ⟨#[]⟩, .int .u8 0, .int .i64 0, .string ⟨#[]⟩, .string ⟨#[]⟩] 37) = V3 at *
  have S3 := more_d5 S2 (.cells #[.string ⟨#[108, 105, 98, 102, 111, 111]⟩, .string ⟨#[62, 61]⟩, .string ⟨#[50, 58, 49, 46, 52, 45, 49]⟩] 9)
  have U := T.out.calls ((Below.refl V3.heap.size V3).alloc (Nat.le_refl _) (.cells #[.string ⟨#[108, 105, 98, 102, 111, 111]⟩, .string ⟨#[62, 61]⟩, .string ⟨#[50, 58, 49, 46, 52, 45, 49]⟩] 9))
  have N := TR.new V3 [⟨#[108, 105, 98, 102, 111, 111]⟩, ⟨#[62, 61]⟩, ⟨#[50, 58, 49, 46, 52, 45, 49]⟩] 9
  have X := Lib.hid (TX.out A (some ⟨V3.heap.size, 0, none⟩) c 3 _ U N)
  clear T U N TX
  refine X.out.mono ?_
  rintro e w8 ⟨rfl, h⟩
  have S4 := keep_d5 S3 h
  clear S2 S3 h X
  obtain ⟨c1, c2, lm, hB⟩ := id S4
  go_wp2_with fail
  go_at_call 20
  refine (FI.out _ hB).mono ?_
  rintro e w9 ⟨rfl, h⟩
  have S5 := keep_d5 S4 h
  go_wp2_with fail
  go_ret
  exact ⟨rfl, S5.2.2.2⟩
end Go.Proofs.YtinidiiachedbaaDoor
