/- RlPlain -/
import Derived.Test.YtnfagaccbkeikaaGreatDoorRichReadsRowG02
/- The words of a text, in plain terms: brackets by themselves, longest runs of other bytes, spaces between. Nothing of the program here. -/

namespace Go.Proofs.YtnfagaccbkeikaaGreatDoor
open Go.RowKit

def brB (n : Int) : Bool := n == 40 || n == 41
def innB (n : Int) : Bool := decide (32 < n) && (decide (n ≤ 126) && !brB n)
def inn (c : UInt8) : Bool := innB c.toNat
def brk (c : UInt8) : Bool := brB c.toNat
def spc (c : UInt8) : Bool := c == 32
/-- a byte that may not stand in a text -/
def wrong (c : UInt8) : Bool := !(inn c || brk c || spc c)
abbrev Tok := Nat × Bytes

def flushT : Option Tok → List Tok
  | none => []
  | some t => [t]
/-- The words from the place p on, a word being begun or not; at a wrong byte a word without text ends the row. -/
def toks : Nat → Option Tok → Bytes → List Tok
  | _, cur, [] => flushT cur
  | p, none, c :: r => if inn c then toks (p + 1) (some (p, [c])) r
      else if spc c then toks (p + 1) none r else if brk c then (p, [c]) :: toks (p + 1) none r else [(p, [])]
  | p, some (q, t), c :: r => if inn c then toks (p + 1) (some (q, t ++ [c])) r
      else (q, t) :: (if spc c then toks (p + 1) none r else if brk c then (p, [c]) :: toks (p + 1) none r else [(p, [])])

theorem toks_some (p q : Nat) (t l : Bytes) : toks p (some (q, t)) l = (q, t ++ l.takeWhile inn) :: toks (p + (l.takeWhile inn).length) none (l.dropWhile inn) := by
  induction l generalizing p t with
  | nil => simp [toks, flushT]
  | cons c r ih =>
    by_cases h : inn c = true
    · simp only [toks, h, if_true, List.takeWhile_cons, List.dropWhile_cons, List.length_cons]
      rw [ih]
      simp [List.append_assoc, Nat.add_assoc, Nat.add_comm 1]
    · simp only [Bool.not_eq_true] at h
      simp [toks, h]
theorem toks_inn {p : Nat} {c : UInt8} {r : Bytes} (h : inn c = true) : toks p none (c :: r) = (p, c :: r.takeWhile inn) :: toks (p + 1 + (r.takeWhile inn).length) none (r.dropWhile inn) := by
  rw [toks, if_pos h, toks_some]; rfl
theorem toks_spc {p : Nat} {c : UInt8} {r : Bytes} (h : spc c = true) : toks p none (c :: r) = toks (p + 1) none r := by
  have hi : inn c = false := by
    simp only [spc, beq_iff_eq] at h
    subst h; decide
  rw [toks, if_neg (by simp [hi]), if_pos h]
theorem spc_brk {c : UInt8} (h : brk c = true) : spc c = false := by
  cases hc : spc c with
  | false => rfl
  | true =>
    simp only [spc, beq_iff_eq] at hc
    subst hc
    revert h; decide
theorem spc_inn {c : UInt8} (h : inn c = true) : spc c = false := by
  cases hc : spc c with
  | false => rfl
  | true =>
    simp only [spc, beq_iff_eq] at hc
    subst hc
    revert h; decide
theorem brk_inn {c : UInt8} (h : inn c = true) : brk c = false := by
  unfold inn innB at h; unfold brk
  simp only [Bool.and_eq_true, Bool.not_eq_true'] at h
  exact h.2.2
theorem toks_brk {p : Nat} {c : UInt8} {r : Bytes} (h : brk c = true) : toks p none (c :: r) = (p, [c]) :: toks (p + 1) none r := by
  have hi : inn c = false := by
    unfold inn innB; unfold brk at h; simp [h]
  have hs : spc c = false := spc_brk h
  rw [toks, if_neg (by simp [hi]), if_neg (by simp [hs]), if_pos h]
theorem toks_wrong {p : Nat} {c : UInt8} {r : Bytes} (h : wrong c = true) : toks p none (c :: r) = [(p, [])] := by
  simp only [wrong, Bool.not_eq_true', Bool.or_eq_false_iff] at h
  rw [toks, if_neg (by simp [h.1.1]), if_neg (by simp [h.2]), if_neg (by simp [h.1.2])]

/-- the first wrong byte's place -/
def badAt (l : Bytes) : Option Nat := l.findIdx? wrong
theorem wrong_cases (c : UInt8) : wrong c = true ∨ spc c = true ∨ brk c = true ∨ inn c = true := by
  unfold wrong
  cases inn c <;> cases brk c <;> cases spc c <;> simp

theorem wrong_no {c : UInt8} (h : wrong c = true) : spc c = false ∧ brk c = false ∧ inn c = false := by
  simp only [wrong, Bool.not_eq_true', Bool.or_eq_false_iff] at h
  exact ⟨h.2, h.1.2, h.1.1⟩
/-- where no byte is wrong each word has a text -/
theorem toks_good {p : Nat} {cur : Option Tok} {l : Bytes} (h : ∀ c ∈ l, wrong c = false) (hc : ∀ t, cur = some t → t.2 ≠ []) : ∀ x ∈ toks p cur l, x.2 ≠ [] := by
  induction l generalizing p cur with
  | nil =>
    cases cur with
    | none => simp [toks, flushT]
    | some t =>
      intro x hx
      simp [toks, flushT] at hx
      subst hx
      exact hc _ rfl
  | cons c r ih =>
    have hr : ∀ c ∈ r, wrong c = false := fun d hd => h d (List.mem_cons_of_mem _ hd)
    have hw := h c List.mem_cons_self
    have hno : ∀ {q : Nat}, ∀ x ∈ toks q none r, x.2 ≠ [] := fun {q} => ih hr (by simp)
    cases cur with
    | none =>
      rcases wrong_cases c with g | g | g | g
      · simp [hw] at g
      · rw [toks_spc g]; exact hno
      · rw [toks_brk g]
        intro x hx
        rcases List.mem_cons.1 hx with rfl | hx
        · simp
        · exact hno x hx
      · rw [toks, if_pos g]
        exact ih hr (by simp)
    | some t =>
      obtain ⟨q, t⟩ := t
      have ht : t ≠ [] := hc _ rfl
      by_cases g : inn c = true
      · rw [toks, if_pos g]
        exact ih hr (by simp)
      · rw [toks, if_neg g]
        intro x hx
        rcases List.mem_cons.1 hx with rfl | hx
        · exact ht
        · by_cases g2 : spc c = true
          · rw [if_pos g2] at hx; exact hno x hx
          · rw [if_neg g2] at hx
            by_cases g3 : brk c = true
            · rw [if_pos g3] at hx
              rcases List.mem_cons.1 hx with rfl | hx
              · simp
              · exact hno x hx
            · exfalso
              simp [wrong, g, g2, g3] at hw
/-- where a byte is wrong the words end in one without text, at the first such byte's place -/
theorem toks_bad {l : Bytes} : ∀ {p : Nat} {cur : Option Tok} {i : Nat}, badAt l = some i → (∀ t, cur = some t → t.2 ≠ []) → ∃ ys, toks p cur l = ys ++ [(p + i, [])] ∧ ∀ x ∈ ys, x.2 ≠ [] := by
  induction l with
  | nil => intro p cur i h; simp [badAt] at h
  | cons c r ih =>
    intro p cur i h hc
    by_cases hw : wrong c = true
    · have hi : i = 0 := by simp [badAt, List.findIdx?_cons, hw] at h; omega
      subst hi
      cases cur with
      | none => exact ⟨[], by rw [toks_wrong hw]; rfl, by simp⟩
      | some t =>
        obtain ⟨q, t⟩ := t
        have hw' := hw
        simp only [wrong, Bool.not_eq_true', Bool.or_eq_false_iff] at hw'
        exact ⟨[(q, t)], by rw [toks, if_neg (by simp [hw'.1.1]), if_neg (by simp [hw'.2]), if_neg (by simp [hw'.1.2])]; rfl, by simpa using hc _ rfl⟩
    · obtain ⟨j, hj, rfl⟩ : ∃ j, badAt r = some j ∧ i = j + 1 := by
        simp only [badAt, List.findIdx?_cons, hw] at h
        cases hb : List.findIdx? wrong r with
        | none => simp [hb] at h
        | some j => simp [hb] at h; exact ⟨j, hb, by omega⟩
      have step : ∀ {p : Nat}, ∃ ys, toks (p + 1) none r = ys ++ [(p + (j + 1), [])] ∧ ∀ x ∈ ys, x.2 ≠ [] := fun {p} => by
        obtain ⟨ys, h1, h2⟩ := ih (p := p + 1) (cur := none) hj (by simp)
        exact ⟨ys, by rw [h1]; simp [Nat.add_assoc, Nat.add_comm 1], h2⟩
      have tail : ∃ ys, (if spc c then toks (p + 1) none r else if brk c then (p, [c]) :: toks (p + 1) none r else [(p, [])]) = ys ++ [(p + (j + 1), [])] ∧ (∀ x ∈ ys, x.2 ≠ []) ∨ inn c = true := by
        obtain ⟨ys, h1, h2⟩ := step (p := p)
        rcases wrong_cases c with g | g | g | g
        · exact absurd g hw
        · exact ⟨ys, .inl ⟨by rw [if_pos g, h1], h2⟩⟩
        · by_cases g2 : spc c = true
          · exact ⟨ys, .inl ⟨by rw [if_pos g2, h1], h2⟩⟩
          · exact ⟨(p, [c]) :: ys, .inl ⟨by rw [if_neg g2, if_pos g, h1]; rfl, by
              intro x hx
              rcases List.mem_cons.1 hx with rfl | hx
              · simp
              · exact h2 x hx⟩⟩
        · exact ⟨[], .inr g⟩
      by_cases g : inn c = true
      · cases cur with
        | none =>
          rw [toks, if_pos g]
          obtain ⟨ys, h1, h2⟩ := ih (p := p + 1) (cur := some (p, [c])) hj (by simp)
          exact ⟨ys, by rw [h1]; simp [Nat.add_assoc, Nat.add_comm 1], h2⟩
        | some t =>
          obtain ⟨q, t⟩ := t
          rw [toks, if_pos g]
          obtain ⟨ys, h1, h2⟩ := ih (p := p + 1) (cur := some (q, t ++ [c])) hj (by simp)
          exact ⟨ys, by rw [h1]; simp [Nat.add_assoc, Nat.add_comm 1], h2⟩
      · obtain ⟨ys, ⟨h1, h2⟩ | h⟩ := tail
        · cases cur with
          | none => exact ⟨ys, by rw [toks, if_neg g, h1], h2⟩
          | some t =>
            obtain ⟨q, t⟩ := t
            exact ⟨(q, t) :: ys, by rw [toks, if_neg g, h1]; rfl, by
              intro x hx
              rcases List.mem_cons.1 hx with rfl | hx
              · exact hc _ rfl
              · exact h2 x hx⟩
        · exact absurd h g

theorem last_only {ys zs r : List Tok} {p q : Nat} (h : ys ++ [(p, [])] ++ r = zs ++ [(q, [])]) (hz : ∀ x ∈ zs, x.2 ≠ []) : p = q := by
  rcases List.eq_nil_or_concat r with rfl | ⟨r', b, rfl⟩
  · rw [List.append_nil] at h
    have := List.append_inj_right' h rfl
    simpa using this
  · rw [List.concat_eq_append, ← List.append_assoc] at h
    have h2 := List.append_inj_left' h rfl
    exact absurd rfl (hz (p, []) (by rw [← h2]; simp))
theorem toks_len (l : Bytes) : ∀ (p : Nat) (cur : Option Tok), (toks p cur l).length ≤ l.length + (flushT cur).length := by
  induction l with
  | nil => intro p cur; simp [toks]
  | cons c r ih =>
    intro p cur
    have h0 := ih (p + 1) none
    cases cur with
    | none =>
      have h1 := ih (p + 1) (some (p, [c]))
      simp only [toks, flushT, List.length_nil, List.length_cons] at *
      split
      · omega
      · split
        · omega
        · split <;> simp only [List.length_cons, List.length_nil] <;> omega
    | some t =>
      obtain ⟨q, t⟩ := t
      have h1 := ih (p + 1) (some (q, t ++ [c]))
      simp only [toks, flushT, List.length_nil, List.length_cons] at *
      split
      · omega
      · simp only [List.length_cons]
        split
        · omega
        · split <;> simp only [List.length_cons, List.length_nil] <;> omega
def curLen : Option Tok → Nat
  | none => 0
  | some t => t.2.length
theorem toks_text (l : Bytes) : ∀ (p : Nat) (cur : Option Tok), ∀ x ∈ toks p cur l, x.2.length ≤ l.length + curLen cur := by
  induction l with
  | nil =>
    intro p cur x hx
    cases cur with
    | none => simp [toks, flushT] at hx
    | some t => simp [toks, flushT] at hx; subst hx; simp [curLen]
  | cons c r ih =>
    intro p cur x hx
    have h0 : ∀ x ∈ toks (p + 1) none r, x.2.length ≤ r.length := fun x hx => by have := ih (p + 1) none x hx; simpa [curLen] using this
    have tail : ∀ x ∈ (if spc c then toks (p + 1) none r else if brk c then (p, [c]) :: toks (p + 1) none r else [(p, [])]), x.2.length ≤ r.length + 1 := by
      intro x hx
      split at hx
      · have := h0 x hx; omega
      · split at hx
        · rcases List.mem_cons.1 hx with rfl | hx
          · simp
          · have := h0 x hx; omega
        · simp at hx; subst hx; simp
    cases cur with
    | none =>
      by_cases g : inn c = true
      · rw [toks, if_pos g] at hx
        have := ih (p + 1) (some (p, [c])) x hx
        simpa [curLen] using this
      · rw [toks, if_neg g] at hx
        have := tail x hx
        simpa [curLen] using this
    | some t =>
      obtain ⟨q, t⟩ := t
      by_cases g : inn c = true
      · rw [toks, if_pos g] at hx
        have := ih (p + 1) (some (q, t ++ [c])) x hx
        simp [curLen] at this ⊢
        omega
      · rw [toks, if_neg g] at hx
        rcases List.mem_cons.1 hx with rfl | hx
        · simp [curLen]
        · have := tail x hx
          simp [curLen] at this ⊢
          omega
/-- What lex.Words hands back: words, a place, an error's number. -/
def wordsS (l : Bytes) : List Tok × Nat × Int :=
  if 4096 < l.length then ([], 0, 40)
  else match badAt l with
    | some i => ([], i, 4)
    | none => (toks 0 none l, 0, 0)

/-- What stands between two joined words. -/
def sepOf : Option Bytes → Bytes → Bytes
  | none, _ => []
  | some q, t => if t = [41] then [] else if q = [40] then [] else [32]
/-- What lex.Join hands back. -/
def joinS : Option Bytes → List Bytes → Bytes
  | _, [] => []
  | prev, t :: r => sepOf prev t ++ t ++ joinS (some t) r
theorem joinS_snoc (xs : List Bytes) (t : Bytes) : ∀ prev, joinS prev (xs ++ [t]) = joinS prev xs ++ sepOf (xs.getLast?.or prev) t ++ t := by
  induction xs with
  | nil => intro prev; simp [joinS]
  | cons x r ih =>
    intro prev
    simp only [List.cons_append, joinS, ih, List.append_assoc]
    congr 4
    cases r with
    | nil => simp
    | cons y r => simp [List.getLast?_cons]
theorem joinS_take_succ (l : List Bytes) (k : Nat) (h : k < l.length) : joinS none (l.take (k + 1)) = joinS none (l.take k) ++ sepOf (if k = 0 then none else l[k - 1]?) l[k] ++ l[k] := by
  rw [take_snoc l k h, joinS_snoc]
  congr 2
  by_cases h0 : k = 0
  · subst h0; simp
  · rw [if_neg h0, List.getLast?_take, if_neg h0]
    simp [List.getElem?_eq_getElem (show k - 1 < l.length by omega)]
def weigh (l : List Bytes) : Nat := (l.map (fun t => t.length + 1)).sum
theorem sepOf_len (p : Option Bytes) (t : Bytes) : (sepOf p t).length ≤ 1 := by
  cases p with
  | none => simp [sepOf]
  | some q =>
    unfold sepOf
    dsimp only
    split
    · simp
    · split <;> simp
theorem joinS_len (l : List Bytes) : ∀ p, (joinS p l).length ≤ weigh l := by
  induction l with
  | nil => intro p; simp [joinS]
  | cons t r ih =>
    intro p
    have h1 := ih (some t)
    have h2 := sepOf_len p t
    simp only [joinS, weigh, List.length_append, List.map_cons, List.sum_cons] at *
    omega
theorem weigh_take (l : List Bytes) (k : Nat) : weigh (l.take k) ≤ weigh l := by
  induction l generalizing k with
  | nil => simp [weigh]
  | cons t r ih =>
    cases k with
    | zero => simp [weigh]
    | succ k => have := ih k; simp only [weigh, List.take_succ_cons, List.map_cons, List.sum_cons] at *; omega
end Go.Proofs.YtnfagaccbkeikaaGreatDoor
