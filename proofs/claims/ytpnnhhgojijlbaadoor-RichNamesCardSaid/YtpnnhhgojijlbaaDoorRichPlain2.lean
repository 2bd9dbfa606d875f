/- Rich dependencies in plain terms: what is read of a text; spaces about it; places. -/
import Derived.Test.YtpnnhhgojijlbaaDoorRichPlain
namespace Go.Proofs.YtpnnhhgojijlbaaDoor
open Go.RowKit

def zeroRT : RT := .mk 0 zeroT []
/-- what a text is read as: the dependency, or a place and an error's number -/
def parseL (s : Bytes) : Option RT × Nat × Int :=
  if (wordsS s).2.2 ≠ 0 then (none, (wordsS s).2.1, (wordsS s).2.2) else parseT s.length (wordsS s).1
mutual
def sameT : RT → RT → Bool
  | .mk k d l, .mk k' d' l' => (decide (k = k') && decide (d.name = d'.name) && decide (d.op = d'.op) && decide (d.evr.epoch = d'.evr.epoch) && decide (d.evr.ver = d'.evr.ver) && decide (d.evr.rel = d'.evr.rel)) && sameL l l'
def sameL : List RT → List RT → Bool
  | [], [] => true
  | a :: l, b :: r => sameT a b && sameL l r
  | [], _ :: _ => false
  | _ :: _, [] => false
end
theorem dp_ext {d d' : Dp} (h1 : d.name = d'.name) (h2 : d.op = d'.op) (h3 : d.evr.epoch = d'.evr.epoch) (h4 : d.evr.ver = d'.evr.ver) (h5 : d.evr.rel = d'.evr.rel) : d = d' := by
  obtain ⟨n, o, e, v, r⟩ := d
  obtain ⟨n', o', e', v', r'⟩ := d'
  simp only at h1 h2 h3 h4 h5
  subst h1 h2 h3 h4 h5
  rfl
mutual
theorem sameT_iff : ∀ a b : RT, sameT a b = true ↔ a = b
  | .mk k d l, .mk k' d' l' => by
    simp only [sameT, Bool.and_eq_true, decide_eq_true_eq, sameL_iff l l', RT.mk.injEq]
    constructor
    · rintro ⟨⟨⟨⟨⟨⟨h0, h1⟩, h2⟩, h3⟩, h4⟩, h5⟩, h6⟩
      exact ⟨h0, dp_ext h1 h2 h3 h4 h5, h6⟩
    · rintro ⟨rfl, rfl, rfl⟩
      simp
theorem sameL_iff : ∀ l r : List RT, sameL l r = true ↔ l = r
  | [], [] => by simp [sameL]
  | a :: l, b :: r => by simp [sameL, sameT_iff a b, sameL_iff l r]
  | [], _ :: _ => by simp [sameL]
  | _ :: _, [] => by simp [sameL]
end
theorem sameT_self (a : RT) : sameT a a = true := (sameT_iff a a).2 rfl
/- places -/
theorem toks_place (l : Bytes) : ∀ (p : Nat) (cur : Option Tok), (∀ t, cur = some t → t.1 ≤ p) → ∀ x ∈ toks p cur l, x.1 ≤ p + l.length := by
  induction l with
  | nil =>
    intro p cur hc x hx
    cases cur with
    | none => simp [toks, flushT] at hx
    | some t => simp [toks, flushT] at hx; subst hx; simpa using hc _ rfl
  | cons c r ih =>
    intro p cur hc x hx
    have h0 : ∀ x ∈ toks (p + 1) none r, x.1 ≤ p + (r.length + 1) := fun x hx => by have := ih (p + 1) none (by simp) x hx; omega
    have tail : ∀ x ∈ (if spc c then toks (p + 1) none r else if brk c then (p, [c]) :: toks (p + 1) none r else [(p, [])]), x.1 ≤ p + (r.length + 1) := by
      intro x hx
      split at hx
      · exact h0 x hx
      · split at hx
        · rcases List.mem_cons.1 hx with rfl | hx
          · simp
          · exact h0 x hx
        · simp at hx; subst hx; simp
    simp only [List.length_cons]
    cases cur with
    | none =>
      by_cases g : inn c = true
      · rw [toks, if_pos g] at hx
        have := ih (p + 1) (some (p, [c])) (by intro t ht; cases ht; simp) x hx
        omega
      · rw [toks, if_neg g] at hx
        exact tail x hx
    | some t =>
      obtain ⟨q, t⟩ := t
      have hq : q ≤ p := hc _ rfl
      by_cases g : inn c = true
      · rw [toks, if_pos g] at hx
        have := ih (p + 1) (some (q, t ++ [c])) (by intro t ht; cases ht; simp only; omega) x hx
        omega
      · rw [toks, if_neg g] at hx
        rcases List.mem_cons.1 hx with rfl | hx
        · simp only; omega
        · exact tail x hx
theorem badAt_lt {l : Bytes} {i : Nat} (h : badAt l = some i) : i < l.length := by
  unfold badAt at h
  have := List.findIdx?_eq_some_iff_getElem.1 h
  exact this.1
/-- the words of a text are small, their places within it -/
theorem words_small (s : Bytes) : ∀ x ∈ (wordsS s).1, x.2.length ≤ 4096 ∧ x.1 ≤ s.length ∧ x.1 ≤ 4096 := by
  intro x hx
  unfold wordsS at hx
  split at hx
  · simp at hx
  · split at hx
    · simp at hx
    · have h1 := toks_text s 0 none x hx
      have h2 := toks_place s 0 none (by simp) x hx
      simp only [curLen] at h1
      omega
theorem words_len (s : Bytes) : (wordsS s).1.length ≤ 4096 := by
  unfold wordsS
  split
  · simp
  · split
    · simp
    · have h1 := toks_len s 0 none
      simp only [flushT, List.length_nil] at h1
      dsimp only
      omega
theorem words_code (s : Bytes) (h : s.length ≤ 4096) : ((wordsS s).2.2 = 0 ∧ (wordsS s).2.1 = 0) ∨ ((wordsS s).2.2 = 4 ∧ (wordsS s).2.1 ≤ s.length) := by
  unfold wordsS
  rw [if_neg (by omega)]
  cases hb : badAt s with
  | some i => have := badAt_lt hb; exact .inr ⟨rfl, by dsimp only; omega⟩
  | none => exact .inl ⟨rfl, rfl⟩
/-- what is refused: where -/
theorem parseL_none {s : Bytes} (hs : s.length ≤ 4096) (h : (parseL s).1 = none) : (parseL s).2.1 ≤ s.length ∧ ((parseL s).2.2 = 4 ∨ (parseL s).2.2 = 21 ∨ (parseL s).2.2 = 40) := by
  unfold parseL at h ⊢
  rcases words_code s hs with ⟨h0, _⟩ | ⟨h0, h1⟩
  · rw [if_neg (by simp [h0])] at h ⊢
    obtain ⟨h1, h2⟩ := parse_none h
    refine ⟨?_, h2⟩
    rcases h1 with h1 | ⟨y, hy, h1⟩
    · rw [h1]; exact Nat.le_refl _
    · rw [h1]; exact (words_small s y hy).2.1
  · rw [if_pos (by rw [h0]; decide)]
    exact ⟨h1, .inl h0⟩
theorem parseL_some {s : Bytes} {t : RT} (h : (parseL s).1 = some t) : parseL s = (some t, 0, 0) := by
  unfold parseL at h ⊢
  split at h
  · cases h
  · rename_i h0; rw [if_neg h0]; exact parse_some h
theorem parseL_iff {s : Bytes} {t : RT} : (parseL s).1 = some t ↔ (wordsS s).2.2 = 0 ∧ t.whole = true ∧ txt (wordsS s).1 = t.words := by
  unfold parseL
  by_cases h : (wordsS s).2.2 = 0
  · rw [if_neg (by simp [h]), parse_iff]; simp [h]
  · rw [if_pos h]; simp [h]
/- spaces about a text -/
theorem toks_shift : ∀ (l : Bytes) (p q : Nat) (c c' : Option Tok), c.map (·.2) = c'.map (·.2) → txt (toks p c l) = txt (toks q c' l)
  | [], p, q, c, c', h => by
    cases c with
    | none => cases c' with
      | none => rfl
      | some t => cases h
    | some t => cases c' with
      | none => cases h
      | some t' => simp only [Option.map_some, Option.some.injEq] at h; simp [toks, flushT, txt, h]
  | b :: l, p, q, c, c', h => by
    have h0 := toks_shift l (p + 1) (q + 1) none none rfl
    have tail : txt (if spc b then toks (p + 1) none l else if brk b then (p, [b]) :: toks (p + 1) none l else [(p, [])]) = txt (if spc b then toks (q + 1) none l else if brk b then (q, [b]) :: toks (q + 1) none l else [(q, [])]) := by
      by_cases g1 : spc b = true
      · rw [if_pos g1, if_pos g1]; exact h0
      · rw [if_neg g1, if_neg g1]
        by_cases g2 : brk b = true
        · rw [if_pos g2, if_pos g2]
          show [b] :: txt _ = [b] :: txt _
          rw [h0]
        · rw [if_neg g2, if_neg g2]; rfl
    cases c with
    | none => cases c' with
      | some t => cases h
      | none =>
        by_cases g : inn b = true
        · rw [toks, toks, if_pos g, if_pos g]; exact toks_shift l _ _ _ _ rfl
        · rw [toks, toks, if_neg g, if_neg g]; exact tail
    | some t => cases c' with
      | none => cases h
      | some t' =>
        obtain ⟨a, t⟩ := t
        obtain ⟨a', t'⟩ := t'
        simp only [Option.map_some, Option.some.injEq] at h
        subst h
        by_cases g : inn b = true
        · rw [toks, toks, if_pos g, if_pos g]; exact toks_shift l _ _ _ _ rfl
        · rw [toks, toks, if_neg g, if_neg g]
          show t :: txt _ = t :: txt _
          rw [tail]
theorem toks_end : ∀ (l : Bytes) (p : Nat) (c : Option Tok), (∀ b ∈ l, wrong b = false) → toks p c (l ++ [32]) = toks p c l
  | [], p, c, _ => by
    cases c with
    | none => rfl
    | some t => obtain ⟨a, t⟩ := t; rfl
  | b :: l, p, c, h => by
    have hl : ∀ b ∈ l, wrong b = false := fun x hx => h x (by simp [hx])
    have h0 := toks_end l (p + 1) none hl
    cases c with
    | none => simp only [List.cons_append, toks, h0, toks_end l (p + 1) _ hl]
    | some t => obtain ⟨a, t⟩ := t; simp only [List.cons_append, toks, h0, toks_end l (p + 1) _ hl]
theorem good_of {l : Bytes} (h : badAt l = none) : ∀ b ∈ l, wrong b = false := by
  intro b hb
  have := List.findIdx?_eq_none_iff.1 h b hb
  simpa using this
theorem words_spaces {s : Bytes} (hs : s.length ≤ 4000) (h : (wordsS s).2.2 = 0) : (wordsS (32 :: 32 :: (s ++ [32]))).2.2 = 0 ∧ txt (wordsS (32 :: 32 :: (s ++ [32]))).1 = txt (wordsS s).1 := by
  have hb : badAt s = none := by
    cases hb : badAt s with
    | none => rfl
    | some i => unfold wordsS at h; rw [if_neg (by omega), hb] at h; cases h
  have hg := good_of hb
  have hb2 : badAt (32 :: 32 :: (s ++ [32])) = none := by
    unfold badAt
    rw [List.findIdx?_eq_none_iff]
    intro x hx
    simp only [List.mem_cons, List.mem_append, List.not_mem_nil, or_false] at hx
    rcases hx with rfl | rfl | hx | rfl
    · decide
    · decide
    · simpa using hg x hx
    · decide
  unfold wordsS
  rw [if_neg (by simp; omega), if_neg (by omega), hb, hb2]
  refine ⟨rfl, ?_⟩
  dsimp only
  rw [toks_spc (by decide), toks_spc (by decide), toks_end s _ _ hg]
  exact toks_shift s _ _ _ _ rfl
/-- with spaces more about it a text is read the same -/
theorem parseL_spaces {s : Bytes} {t : RT} (hs : s.length ≤ 4000) (h : (parseL s).1 = some t) : (parseL (32 :: 32 :: (s ++ [32]))).1 = some t := by
  obtain ⟨h0, h1, h2⟩ := parseL_iff.1 h
  obtain ⟨g0, g1⟩ := words_spaces hs h0
  exact parseL_iff.2 ⟨g0, h1, g1.trans h2⟩
end Go.Proofs.YtpnnhhgojijlbaaDoor
