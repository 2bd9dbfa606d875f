/- Walks: the document's answer for lex: its words, and words put together. -/
import Derived.Test.YtpnnhhgojijlbaaDoorRlJoin
import Derived.Test.YtpnnhhgojijlbaaDoorRlWords
import Derived.RegionTactic
import Derived.ChangeAlike
import Derived.Deep.RegionHeld3
namespace Go.Proofs.YtpnnhhgojijlbaaDoor
open Go.RowKit Go.Shelf
set_option linter.unusedVariables false

def kindI (n : Int) : Int := if n = 32 then 0 else if brB n then 1 else if 33 ≤ n ∧ n ≤ 126 then 2 else 3
theorem kind_of (c : UInt8) : (wrong c = true → kindI c.toNat = 3) ∧ (spc c = true → kindI c.toNat = 0) ∧ (brk c = true → kindI c.toNat = 1) ∧ (inn c = true → kindI c.toNat = 2) := by
  have h32 := beq_toNat c 32 (by omega)
  unfold wrong spc brk inn innB kindI
  rw [show (c == 32) = ((c.toNat : Int) == 32) from h32.symm]
  generalize (c.toNat : Int) = n
  by_cases a : n = 32
  · subst a; decide
  · cases hb : brB n with
    | true =>
      have : n = 40 ∨ n = 41 := by simpa [brB] using hb
      simp [a]
    | false =>
      by_cases h1 : 32 < n <;> by_cases h2 : n ≤ 126 <;> simp [a, h1, h2] <;> omega

/-- How far the document's loop has come: k bytes are read, the words ys are whole, cur is begun. -/
def Far (L : Bytes) (k : Nat) (ys : List Tok) (cur : Option Tok) : Prop :=
  toks 0 none L = ys ++ toks k cur (L.drop k) ∧ (cur = none ↔ k = 0 ∨ ∃ c, L[k - 1]? = some c ∧ inn c = false)
theorem conv1 (W : World) (c : UInt8) : (convert 57 9 (.slice (some ⟨W.heap.size, 0, none⟩) 1 1)).run Tryd.prog (W.alloc (.cells #[.int .u8 (c.toNat : Int)] 5)) = .ok (.string (bs [c])) (W.alloc (.cells #[.int .u8 (c.toNat : Int)] 5)) :=
  run_convert_bytes_back _ _ _ 5 _ _ [c] Tryd.underlying57 Tryd.underlying5 Tryd.underlying9 (fun j hj => by
    match j, hj with
    | 0, _ => simp [Addr.add])
theorem conv1d (W : World) (c : UInt8) : (convert 57 9 (.slice (some ⟨W.heap.size, 0, none⟩) 1 1)).run Tryd.prog (W.alloc (.cells #[.int .u8 (c.toNat : Int)] 5)).drew = .ok (.string (bs [c])) (W.alloc (.cells #[.int .u8 (c.toNat : Int)] 5)).drew :=
  run_convert_bytes_back _ _ _ 5 _ _ [c] Tryd.underlying57 Tryd.underlying5 Tryd.underlying9 (fun j hj => by
    match j, hj with
    | 0, _ => simp [Addr.add])
theorem Far.room {L : Bytes} {k : Nat} {ys : List Tok} {cur : Option Tok} (h : Far L k ys cur) : (ys ++ flushT cur).length ≤ L.length := by
  have h1 := toks_len L 0 none
  rw [h.1] at h1
  have h2 : (flushT cur).length ≤ (toks k cur (L.drop k)).length := by
    cases cur with
    | none => simp [flushT]
    | some t => obtain ⟨q, t⟩ := t; rw [toks_some]; simp [flushT]
  simp only [List.length_append, flushT, List.length_nil, Nat.add_zero] at *
  omega
theorem Far.last {L : Bytes} {k : Nat} {c : UInt8} {r : Bytes} (hd : L.drop k = c :: r) : L[k + 1 - 1]? = some c := by
  have : L[k]? = (L.drop k)[0]? := by rw [List.getElem?_drop]; rfl
  rw [Nat.add_sub_cancel, this, hd]; rfl
theorem Far.spc {L : Bytes} {k : Nat} {ys : List Tok} {cur : Option Tok} {c : UInt8} (h : Far L k ys cur) (hd : L.drop k = c :: L.drop (k + 1)) (g : spc c = true) : Far L (k + 1) (ys ++ flushT cur) none := by
  have hi : inn c = false := by cases hc : inn c with | false => rfl | true => rw [spc_inn hc] at g; cases g
  refine ⟨?_, by simp only [true_iff]; exact .inr ⟨c, Far.last hd, hi⟩⟩
  rw [h.1, hd]
  cases cur with
  | none => rw [toks_spc g]; simp [flushT]
  | some t => obtain ⟨q, t⟩ := t; rw [toks, if_neg (by simp [hi]), if_pos g]; simp [flushT]
theorem Far.brk {L : Bytes} {k : Nat} {ys : List Tok} {cur : Option Tok} {c : UInt8} (h : Far L k ys cur) (hd : L.drop k = c :: L.drop (k + 1)) (g : brk c = true) : Far L (k + 1) (ys ++ flushT cur ++ [(k, [c])]) none := by
  have hi : inn c = false := by cases hc : inn c with | false => rfl | true => rw [brk_inn hc] at g; cases g
  refine ⟨?_, by simp only [true_iff]; exact .inr ⟨c, Far.last hd, hi⟩⟩
  rw [h.1, hd]
  cases cur with
  | none => rw [toks_brk g]; simp [flushT]
  | some t => obtain ⟨q, t⟩ := t; rw [toks, if_neg (by simp [hi]), if_neg (by simp [spc_brk g]), if_pos g]; simp [flushT]
theorem Far.more0 {L : Bytes} {k : Nat} {ys : List Tok} {c : UInt8} (h : Far L k ys none) (hd : L.drop k = c :: L.drop (k + 1)) (g : inn c = true) : Far L (k + 1) ys (some (k, [c])) := by
  refine ⟨?_, by rw [Far.last hd]; simp [g]⟩
  rw [h.1, hd, toks, if_pos g]
theorem Far.more {L : Bytes} {k q : Nat} {t : Bytes} {ys : List Tok} {c : UInt8} (h : Far L k ys (some (q, t))) (hd : L.drop k = c :: L.drop (k + 1)) (g : inn c = true) : Far L (k + 1) ys (some (q, t ++ [c])) := by
  refine ⟨?_, by rw [Far.last hd]; simp [g]⟩
  rw [h.1, hd, toks, if_pos g]
theorem kind_two {c : UInt8} (h : inn c = false) : (kindI c.toNat == 2) = false := by
  have k := kind_of c
  rcases wrong_cases c with g | g | g | g
  · rw [k.1 g]; rfl
  · rw [k.2.1 g]; rfl
  · rw [k.2.2.1 g]; rfl
  · rw [g] at h; cases h
theorem Far.prev0 {s : ByteArray} {k : Nat} {ys : List Tok} (h : Far s.toList k ys none) (hk : k < s.size) :
    k ≤ 0 ∨ (0 < k ∧ ∀ h : k - 1 < s.size, (kindI s[k - 1].toNat == 2) = false) := by
  have h2 := h.2
  simp only [true_iff] at h2
  rcases h2 with h2 | ⟨c, h2, h3⟩
  · exact .inl (by omega)
  · by_cases h0 : k = 0
    · exact .inl (by omega)
    · refine .inr ⟨by omega, fun hlt => ?_⟩
      rw [List.getElem?_eq_getElem (by rw [size_toList]; omega), toList_get s (k - 1) hlt] at h2
      have : s[k - 1] = c := by simpa using h2
      rw [this]; exact kind_two h3
theorem Far.prev1 {s : ByteArray} {k : Nat} {ys : List Tok} {t : Tok} (h : Far s.toList k ys (some t)) (hk : k < s.size) :
    0 < k ∧ ∀ h : k - 1 < s.size, kindI s[k - 1].toNat = 2 := by
  have h2 := h.2
  simp only [reduceCtorEq, false_iff, not_or, not_exists, not_and] at h2
  refine ⟨by omega, fun hlt => ?_⟩
  have h3 := h2.2 s[k - 1] (by rw [List.getElem?_eq_getElem (by rw [size_toList]; omega), toList_get s (k - 1) hlt])
  exact (kind_of _).2.2.2 (by simpa using h3)
theorem Far.textLen {L : Bytes} {k q : Nat} {t : Bytes} {ys : List Tok} (h : Far L k ys (some (q, t))) : t.length ≤ L.length := by
  have h1 := toks_text L 0 none (q, t ++ (L.drop k).takeWhile inn) (by rw [h.1, toks_some]; simp)
  simp [curLen] at h1
  omega
theorem noWrong {L : Bytes} (h : badAt L = none) (c : UInt8) (hc : c ∈ L) : wrong c = false := by
  have := List.findIdx?_eq_none_iff.1 h c hc
  simpa using this
/-- none of the first k bytes is wrong -/
def Clean (s : ByteArray) (k : Nat) : Prop := ∀ c ∈ s.toList.take k, wrong c = false
theorem Clean.next {s : ByteArray} {k : Nat} (h : Clean s k) (hlt : k < s.size) : (wrong s[k] = false → Clean s (k + 1)) ∧ (wrong s[k] = true → badAt s.toList = some k) := by
  constructor
  · intro g c hc
    rw [toList_take_succ s k hlt] at hc
    rcases List.mem_append.1 hc with hc | hc
    · exact h c hc
    · simp at hc; subst hc; exact g
  · intro g
    unfold badAt
    rw [List.findIdx?_eq_some_iff_getElem]
    refine ⟨by rw [size_toList]; exact hlt, by rw [toList_get s k hlt]; exact g, fun j hj => ?_⟩
    have hm : s.toList[j]'(by rw [size_toList]; omega) ∈ s.toList.take k := by
      rw [List.mem_take_iff_getElem]
      exact ⟨j, by rw [size_toList]; omega, rfl⟩
    simpa using h _ hm
theorem Clean.all {s : ByteArray} {k : Nat} (h : Clean s k) (hk : s.size ≤ k) : badAt s.toList = none := by
  unfold badAt
  rw [List.findIdx?_eq_none_iff]
  intro c hc
  have := h c (by rw [List.take_of_length_le (by rw [size_toList]; exact hk)]; exact hc)
  simpa using this
theorem kind_ne {c : UInt8} (h : wrong c = false) : (kindI c.toNat == 3) = false := by
  have k := kind_of c
  rcases wrong_cases c with g | g | g | g
  · rw [g] at h; cases h
  · rw [k.2.1 g]; rfl
  · rw [k.2.2.1 g]; rfl
  · rw [k.2.2.2 g]; rfl

end Go.Proofs.YtpnnhhgojijlbaaDoor
