/- A rich dependency in a box of the call's own, through calls; what Show answers, what Parse refuses: plain facts. -/
import Derived.Test.YtpnnhhgojijlbaaDoorRcD
import Derived.Test.YtpnnhhgojijlbaaDoorRichLarge
namespace Go.Proofs.YtpnnhhgojijlbaaDoor
open Go.RowKit Go.Shelf
set_option linter.unusedVariables false

structure BX (a : RV) (m : Nat) (W : World) : Prop where
  box : Box7 m (.int .u8 a.kind) (.string (bs a.dep.name)) (.int .u8 a.dep.op) (.int .i64 a.dep.evr.epoch) (.string (bs a.dep.evr.ver)) (.string (bs a.dep.evr.rel)) (.slice a.addr a.args.length a.cap) W
  tree : RTree W.heap.size W a
theorem BX.then {W W' : World} {a : RV} {m : Nat} (h : BX a m W) (hb : Below W.heap.size W W') : BX a m W' :=
  ⟨h.box.past (hb.mono h.box.2.2), (h.tree.keeps hb).more hb.size⟩
theorem BX.alloc {W : World} {a : RV} {m : Nat} (h : BX a m W) (o : Obj) : BX a m (W.alloc o) := h.then ((Below.refl _ _).alloc (Nat.le_refl _) o)
theorem BX.new {w : World} {a : RV} (ha : RTree w.heap.size w a) : BX a w.heap.size (w.alloc (.cells #[.int .u8 a.kind, .string (bs a.dep.name), .int .u8 a.dep.op, .int .i64 a.dep.evr.epoch, .string (bs a.dep.evr.ver), .string (bs a.dep.evr.rel), .slice a.addr a.args.length a.cap] 29)) :=
  ⟨Box7.new w _ _ _ _ _ _ _ _, (ha.keeps ((Below.refl _ _).alloc (Nat.le_refl _) _)).more (by simp)⟩
theorem BX.lt {W : World} {a : RV} {m : Nat} (h : BX a m W) : m < W.heap.size := h.box.2.2
/-- what Show answers, in three cases -/
theorem show_three (t : RT) : ((showR t).2 = 0 ∧ t.whole = true ∧ parseL (showR t).1 = (some t, 0, 0) ∧ (showR t).1.length ≤ 4096) ∨ ((showR t).2 = 4 ∧ t.whole = false ∧ (showR t).1 = []) ∨ ((showR t).2 = 40 ∧ t.whole = true ∧ (showR t).1 = []) := by
  by_cases h : (showR t).2 = 0
  · refine .inl ⟨h, ?_, parseL_some (show_back h), ?_⟩
    · unfold showR at h; split at h
      · assumption
      · cases h
    · unfold showR at h ⊢; split at h
      · rename_i w1
        split at h
        · cases h
        · rename_i l1
          rw [if_pos w1, if_neg l1]
          exact Nat.le_of_not_lt l1
      · cases h
  · unfold showR at h ⊢
    split
    · rename_i w1
      split
      · exact .inr (.inr ⟨rfl, w1, rfl⟩)
      · rename_i l1; rw [if_pos w1, if_neg l1] at h; exact absurd rfl h
    · rename_i w1
      exact .inr (.inl ⟨rfl, by simpa using w1, rfl⟩)
theorem parseL_no {s : Bytes} (h : (parseL s).1 = none) : (parseL s).2.2 ≠ 0 := by
  unfold parseL at h ⊢
  split
  · assumption
  · rename_i h0
    rw [if_neg h0] at h
    obtain ⟨_, h2⟩ := parse_none h
    omega
/-- what is shown of what was read: the words, put together, or too long -/
theorem show_read {s : Bytes} {t : RT} (h : (parseL s).1 = some t) : ∃ l, wordsS s = (l, 0, 0) ∧ l.length ≤ 4096 ∧ txt l = t.words ∧ t.whole = true ∧ t.parts ≤ 2000 ∧ weigh t.words ≤ 1000000000 ∧
    (((showR t).2 = 0 ∧ (showR t).1 = joinS none t.words) ∨ ((showR t).2 = 40 ∧ 4096 < (joinS none t.words).length)) := by
  obtain ⟨h0, hw, ht⟩ := parseL_iff.1 h
  have hw' := hw
  unfold RT.whole at hw'
  simp only [Bool.and_eq_true, decide_eq_true_eq] at hw'
  refine ⟨(wordsS s).1, ?_, words_len s, ht, hw, by omega, weigh_words hw'.1 (by omega), ?_⟩
  · have h1 := words_out h0
    generalize wordsS s = x at h0 h1
    obtain ⟨a, b, c⟩ := x
    simp only at h0 h1
    rw [h0, h1]
  · unfold showR
    rw [if_pos hw]
    split
    · rename_i l1; exact .inr ⟨rfl, l1⟩
    · exact .inl ⟨rfl, rfl⟩
def btexts (l : List Tok) : List ByteArray := l.map (fun x => bs x.2)
theorem btexts_snoc (ys : List Tok) (k : Nat) (h : k < ys.length) : btexts (ys.take (k + 1)) = btexts (ys.take k) ++ [bs ys[k].2] := by
  rw [take_snoc _ _ h]; unfold btexts; rw [List.map_append]; rfl
theorem btexts_txt (l : List Tok) : texts (btexts l) = txt l := by simp [texts, btexts, txt, bs_toList, Function.comp_def]
theorem btexts_len (l : List Tok) : (btexts l).length = l.length := by simp [btexts]
end Go.Proofs.YtpnnhhgojijlbaaDoor
