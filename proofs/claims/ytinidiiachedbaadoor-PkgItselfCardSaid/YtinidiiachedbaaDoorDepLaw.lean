/- Walks: what the statements of dep ask first (long, awake); a dependency of its own. -/
import Derived.Test.YtinidiiachedbaaDoorDepParse
import Derived.Test.YtinidiiachedbaaDoorDepShow
import Derived.Test.YtinidiiachedbaaDoorTextsR06
import Derived.Test.YtinidiiachedbaaDoorEvLaw
namespace Go.Proofs.YtinidiiachedbaaDoor
open Go.RowKit Go.Shelf

/-- more than a statement goes over -/
def longD (d : Dp) : Bool := decide (1000 < d.name.length) || (decide (1000 < d.evr.ver.length) || decide (1000 < d.evr.rel.length))
theorem longD_small {d : Dp} (h : longD d = false) : d.name.length ≤ 1000 ∧ d.evr.ver.length ≤ 1000 ∧ d.evr.rel.length ≤ 1000 := by
  unfold longD at h
  simp only [Bool.or_eq_false_iff, decide_eq_false_iff_not] at h
  exact ⟨by omega, by omega, by omega⟩
set_option maxRecDepth 100000 in
set_option maxHeartbeats 16000000 in
theorem down_any (s : ByteArray) (e : Evr) (w : World) : Calls Tryd.prog 25 #[.string s, e.val] w fun r w' => r = .returned (.agg #[.string s, .int .u8 2, .int .i64 e.epoch, .string (bs e.ver), .string (bs e.rel)]) ∧ Below w.heap.size w w' := by
  unfold Evr.val
  go_enter Tryd.func25, Tryd.ntmps25
  go_wp2_with fail
  exact bodyPost_ret (v := .agg #[.string s, .int .u8 2, .int .i64 e.epoch, .string (bs e.ver), .string (bs e.rel)]) (by simp [results, Tryd.results25, go_sem]) rfl ⟨rfl, ((Below.refl _ _).alloc (Nat.le_refl _) _).alloc (by simp) _⟩
theorem none_len {s : Bytes} (h1 : (splitSp s).length ≠ 1) (h3 : (splitSp s).length ≠ 3) : dpOf (splitSp s) = none := dpOf_len h1 h3
theorem none_one {s n : Bytes} (h : splitSp s = [n]) (hn : nameB n = false) : dpOf (splitSp s) = none := by
  rw [h]; unfold dpOf; dsimp only; rw [if_neg]; unfold dmayB; dsimp only; rw [hn]; simp
theorem none_op {s n o v : Bytes} (h : splitSp s = [n, o, v]) (ho : (opOf o).2 = false ∨ (opOf o).1 = 0) : dpOf (splitSp s) = none := by
  rw [h]; unfold dpOf; dsimp only; split
  · rw [if_neg]; rintro ⟨a, b, _⟩; rcases ho with ho | ho
    · rw [ho] at a; cases a
    · exact b ho
  · rfl
theorem none_ev {s n o v : Bytes} (h : splitSp s = [n, o, v]) (hv : evOf v = none) : dpOf (splitSp s) = none := by rw [h]; unfold dpOf; dsimp only; rw [hv]
theorem none_dmay {s n o v : Bytes} {e : Evr} (h : splitSp s = [n, o, v]) (hv : evOf v = some e) (hm : dmayB ⟨n, (opOf o).1, e⟩ = false) : dpOf (splitSp s) = none := by
  rw [h]; unfold dpOf; dsimp only; rw [hv]; dsimp only; rw [if_neg]; rintro ⟨_, _, c⟩; rw [hm] at c; cases c
theorem ev_one : evOf [49] = some ⟨0, [49], []⟩ := evOf_iff.2 ⟨by decide +kernel, by rw [show_zero]; rfl⟩
def awD : Dp := ⟨[108, 105, 98, 102, 111, 111], 6, ⟨2, [49, 46, 52], [49]⟩⟩
theorem awD_may : dmayB awD = true := by decide +kernel
theorem awD_show : showL awD.evr = [50, 58, 49, 46, 52, 45, 49] := by
  show showL ⟨2, [49, 46, 52], [49]⟩ = _
  unfold showL
  dsimp only
  rw [if_pos (by decide)]
  unfold Lib.itoa
  rw [if_neg (by decide), show (2 : Int).toNat = 2 from rfl, Lib.decDigits_one (by decide)]
  rfl
theorem awD_words : dwords awD = [[108, 105, 98, 102, 111, 111], [62, 61], [50, 58, 49, 46, 52, 45, 49]] := by
  unfold dwords
  rw [if_neg (by decide), awD_show]
  rfl
theorem awD_text : dpText awD = [108, 105, 98, 102, 111, 111, 32, 62, 61, 32, 50, 58, 49, 46, 52, 45, 49] := by unfold dpText; rw [awD_words]; rfl
theorem parse_none (s : ByteArray) (w : World) (hI : DpIn w) (hs : decide (s.size ≤ 1000) = true) (h : dpOf (splitSp s.toList) = none) : Calls Tryd.prog 19 #[.string s] w fun e w' => e = .returned (.tuple #[.agg #[.string ⟨#[]⟩, .int .u8 0, .int .i64 0, .string ⟨#[]⟩, .string ⟨#[]⟩], .int .i64 4]) ∧ Below w.heap.size w w' := by
  have h2 := dparse_any s w (by have := of_decide_eq_true hs; omega) hI
  rw [h] at h2
  exact h2
theorem parse_some (s : ByteArray) (d : Dp) (w : World) (hI : DpIn w) (hs : decide (s.size ≤ 1000) = true) (h : dpOf (splitSp s.toList) = some d) : Calls Tryd.prog 19 #[.string s] w fun e w' => e = .returned (.tuple #[.agg #[.string (bs d.name), .int .u8 d.op, .int .i64 d.evr.epoch, .string (bs d.evr.ver), .string (bs d.evr.rel)], .int .i64 0]) ∧ Below w.heap.size w w' := by
  have h2 := dparse_any s w (by have := of_decide_eq_true hs; omega) hI
  rw [h] at h2
  exact h2
theorem box_d5 {w W : World} {n : Nat} (hB : Below n w W) (hn : n ≤ W.heap.size) (a b c d e : Value) : let V := W.alloc (.cells #[a, b, c, d, e] 37); let m := W.heap.size; V.cell? ⟨m, 1, none⟩ = some b ∧ V.cell? ⟨m, 2, none⟩ = some c ∧ m < V.heap.size ∧ Below n w V :=
  ⟨(World.cell?_alloc_at _ _ _ _ rfl).trans rfl, (World.cell?_alloc_at _ _ _ _ rfl).trans rfl, by simp, hB.alloc hn _⟩
theorem keep_d5 {w W W' : World} {m : Nat} {b c : Value} (h : W.cell? ⟨m, 1, none⟩ = some b ∧ W.cell? ⟨m, 2, none⟩ = some c ∧ m < W.heap.size ∧ Below w.heap.size w W) (hb : Below W.heap.size W W') : W'.cell? ⟨m, 1, none⟩ = some b ∧ W'.cell? ⟨m, 2, none⟩ = some c ∧ m < W'.heap.size ∧ Below w.heap.size w W' := by
  obtain ⟨h1, h2, h3, h4⟩ := h
  exact ⟨(hb.cell (p := ⟨m, 1, none⟩) h3).trans h1, (hb.cell (p := ⟨m, 2, none⟩) h3).trans h2, Nat.lt_of_lt_of_le h3 hb.size, h4.trans (hb.mono h4.size)⟩
theorem more_d5 {w W : World} {m : Nat} {b c : Value} (h : W.cell? ⟨m, 1, none⟩ = some b ∧ W.cell? ⟨m, 2, none⟩ = some c ∧ m < W.heap.size ∧ Below w.heap.size w W) (o : Obj) : (W.alloc o).cell? ⟨m, 1, none⟩ = some b ∧ (W.alloc o).cell? ⟨m, 2, none⟩ = some c ∧ m < (W.alloc o).heap.size ∧ Below w.heap.size w (W.alloc o) :=
  keep_d5 h ((Below.refl _ _).alloc (Nat.le_refl _) _)
end Go.Proofs.YtinidiiachedbaaDoor
