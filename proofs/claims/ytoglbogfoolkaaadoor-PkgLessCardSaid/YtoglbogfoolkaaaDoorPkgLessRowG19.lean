/- RlRef, RlLaw0, RichWords, RichBx -/
import Derived.Test.YtoglbogfoolkaaaDoorPkgLessRowG15
import Derived.Test.YtoglbogfoolkaaaDoorPkgLessRowG13
import Derived.Test.YtoglbogfoolkaaaDoorPkgLessRowG16
import Derived.Test.YtoglbogfoolkaaaDoorPkgLessRowG18
import Derived.Test.YtoglbogfoolkaaaDoorPkgLessRowG08
import Derived.Test.YtoglbogfoolkaaaDoorPkgLessRowG10
import Derived.Test.YtoglbogfoolkaaaDoorPkgLessRowG14
import Derived.RegionTactic
import Derived.ChangeAlike
import Derived.Deep.RegionHeld3
import Derived.Deep.QuietTactic
import Derived.BigQuiet
import Derived.Laws.IdiomStrings
import Derived.Maps.AppendAt
namespace Go.Proofs.YtoglbogfoolkaaaDoor
section
/- Walks: the document's answer for lex: its words, and words put together. -/






open Go.RowKit Go.Shelf
set_option linter.unusedVariables false

/-- How far the document's loop has come: k bytes are read, the words ys are whole, cur is begun. -/
def Far (L : Bytes) (k : Nat) (ys : List Tok) (cur : Option Tok) : Prop :=
  toks 0 none L = ys ++ toks k cur (L.drop k) ∧ (cur = none ↔ k = 0 ∨ ∃ c, L[k - 1]? = some c ∧ inn c = false)
theorem Far.room {L : Bytes} {k : Nat} {ys : List Tok} {cur : Option Tok} (h : Far L k ys cur) : (ys ++ flushT cur).length ≤ L.length := by
  have h1 := toks_len L 0 none
  rw [h.1] at h1
  have h2 : (flushT cur).length ≤ (toks k cur (L.drop k)).length := by
    cases cur with
    | none => simp [flushT]
    | some t => obtain ⟨q, t⟩ := t; rw [toks_some]; simp [flushT]
  simp only [List.length_append, flushT, List.length_nil, Nat.add_zero] at *
  omega
theorem Far.last {L : Bytes} {k : Nat} {c : UInt8} {r : Bytes} (hd : L.drop k = c :: r) : L[k + 1 - 1]? = some c := by
  have : L[k]? = (L.drop k)[0]? := by rw [List.getElem?_drop]; rfl
  rw [Nat.add_sub_cancel, this, hd]; rfl
theorem Far.spc {L : Bytes} {k : Nat} {ys : List Tok} {cur : Option Tok} {c : UInt8} (h : Far L k ys cur) (hd : L.drop k = c :: L.drop (k + 1)) (g : spc c = true) : Far L (k + 1) (ys ++ flushT cur) none := by
  have hi : inn c = false := by cases hc : inn c with | false => rfl | true => rw [spc_inn hc] at g; cases g
  refine ⟨?_, by simp only [true_iff]; exact .inr ⟨c, Far.last hd, hi⟩⟩
  rw [h.1, hd]
  cases cur with
  | none => rw [toks_spc g]; simp [flushT]
  | some t => obtain ⟨q, t⟩ := t; rw [toks, if_neg (by simp [hi]), if_pos g]; simp [flushT]
theorem Far.brk {L : Bytes} {k : Nat} {ys : List Tok} {cur : Option Tok} {c : UInt8} (h : Far L k ys cur) (hd : L.drop k = c :: L.drop (k + 1)) (g : brk c = true) : Far L (k + 1) (ys ++ flushT cur ++ [(k, [c])]) none := by
  have hi : inn c = false := by cases hc : inn c with | false => rfl | true => rw [brk_inn hc] at g; cases g
  refine ⟨?_, by simp only [true_iff]; exact .inr ⟨c, Far.last hd, hi⟩⟩
  rw [h.1, hd]
  cases cur with
  | none => rw [toks_brk g]; simp [flushT]
  | some t => obtain ⟨q, t⟩ := t; rw [toks, if_neg (by simp [hi]), if_neg (by simp [spc_brk g]), if_pos g]; simp [flushT]
theorem Far.more {L : Bytes} {k q : Nat} {t : Bytes} {ys : List Tok} {c : UInt8} (h : Far L k ys (some (q, t))) (hd : L.drop k = c :: L.drop (k + 1)) (g : inn c = true) : Far L (k + 1) ys (some (q, t ++ [c])) := by
  refine ⟨?_, by rw [Far.last hd]; simp [g]⟩
  rw [h.1, hd, toks, if_pos g]
/-- none of the first k bytes is wrong -/
def Clean (s : ByteArray) (k : Nat) : Prop := ∀ c ∈ s.toList.take k, wrong c = false
theorem Clean.next {s : ByteArray} {k : Nat} (h : Clean s k) (hlt : k < s.size) : (wrong s[k] = false → Clean s (k + 1)) ∧ (wrong s[k] = true → badAt s.toList = some k) := by
  constructor
  · intro g c hc
    rw [toList_take_succ s k hlt] at hc
    rcases List.mem_append.1 hc with hc | hc
    · exact h c hc
    · simp at hc; subst hc; exact g
  · intro g
    unfold badAt
    rw [List.findIdx?_eq_some_iff_getElem]
    refine ⟨by rw [size_toList]; exact hlt, by rw [toList_get s k hlt]; exact g, fun j hj => ?_⟩
    have hm : s.toList[j]'(by rw [size_toList]; omega) ∈ s.toList.take k := by
      rw [List.mem_take_iff_getElem]
      exact ⟨j, by rw [size_toList]; omega, rfl⟩
    simpa using h _ hm
theorem Clean.all {s : ByteArray} {k : Nat} (h : Clean s k) (hk : s.size ≤ k) : badAt s.toList = none := by
  unfold badAt
  rw [List.findIdx?_eq_none_iff]
  intro c hc
  have := h c (by rw [List.take_of_length_le (by rw [size_toList]; exact hk)]; exact hc)
  simpa using this
end
section
/- Walks: what the statements of lex ask first: are these a text's words; are the examples as they are told; is it too long. -/




open Go.RowKit Go.Shelf

def AllInn (s : ByteArray) (k : Nat) : Prop := (s.toList.take k).all inn = true
theorem AllInn.next {s : ByteArray} {k : Nat} (h : AllInn s k) (hlt : k < s.size) : (inn s[k] = true → AllInn s (k + 1)) ∧ (inn s[k] = false → s.toList.all inn = false) := by
  constructor
  · intro g
    unfold AllInn at *
    rw [toList_take_succ s k hlt, List.all_append, h]
    simp [g]
  · intro g
    rw [List.all_eq_false]
    exact ⟨s[k], by rw [← toList_get s k hlt]; exact List.getElem_mem _, by simp [g]⟩
end
section
/- Walks: the words of a rich dependency that is whole (rich.words). -/






open Go.RowKit Go.Shelf
set_option linter.unusedVariables false

theorem partsL_get : ∀ {l : List RT} {i : Nat} (h : i < l.length), l[i].parts ≤ partsL l
  | a :: l, 0, h => by simp [partsL]
  | a :: l, i + 1, h => by have := partsL_get (l := l) (i := i) (by simpa using h); simp only [List.getElem_cons_succ, partsL]; omega
end
section
/- A rich dependency in a box of the call's own, through calls; what Show answers, what Parse refuses: plain facts. -/



open Go.RowKit Go.Shelf
set_option linter.unusedVariables false

structure BX (a : RV) (m : Nat) (W : World) : Prop where
  box : Box7 m (.int .u8 a.kind) (.string (bs a.dep.name)) (.int .u8 a.dep.op) (.int .i64 a.dep.evr.epoch) (.string (bs a.dep.evr.ver)) (.string (bs a.dep.evr.rel)) (.slice a.addr a.args.length a.cap) W
  tree : RTree W.heap.size W a
theorem BX.then {W W' : World} {a : RV} {m : Nat} (h : BX a m W) (hb : Below W.heap.size W W') : BX a m W' :=
  ⟨h.box.past (hb.mono h.box.2.2), (h.tree.keeps hb).more hb.size⟩
theorem BX.alloc {W : World} {a : RV} {m : Nat} (h : BX a m W) (o : Obj) : BX a m (W.alloc o) := h.then ((Below.refl _ _).alloc (Nat.le_refl _) o)
theorem BX.new {w : World} {a : RV} (ha : RTree w.heap.size w a) : BX a w.heap.size (w.alloc (.cells #[.int .u8 a.kind, .string (bs a.dep.name), .int .u8 a.dep.op, .int .i64 a.dep.evr.epoch, .string (bs a.dep.evr.ver), .string (bs a.dep.evr.rel), .slice a.addr a.args.length a.cap] 41)) :=
  ⟨Box7.new w _ _ _ _ _ _ _ _, (ha.keeps ((Below.refl _ _).alloc (Nat.le_refl _) _)).more (by simp)⟩
theorem BX.lt {W : World} {a : RV} {m : Nat} (h : BX a m W) : m < W.heap.size := h.box.2.2
end
end Go.Proofs.YtoglbogfoolkaaaDoor
