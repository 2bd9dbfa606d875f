/- Plain laws of words: joined words, spread words, two texts, places. Nothing of the program here. -/
import Derived.Test.YtpnnhhgojijlbaaDoorRlLaw0
namespace Go.Proofs.YtpnnhhgojijlbaaDoor
open Go.RowKit
set_option linter.unusedVariables false

theorem plainB_cases {t : Bytes} (h : plainB t = true) : (∃ c, t = [c] ∧ brk c = true) ∨ (∃ c r, t = c :: r ∧ inn c = true ∧ ∀ d ∈ r, inn d = true) := by
  unfold plainB at h
  simp only [Bool.or_eq_true, beq_iff_eq, Bool.and_eq_true, bne_iff_ne] at h
  rcases h with (rfl | rfl) | ⟨h1, h2⟩
  · exact .inl ⟨40, rfl, by decide⟩
  · exact .inl ⟨41, rfl, by decide⟩
  · cases t with
    | nil => exact absurd rfl h2
    | cons c r =>
      simp only [List.all_cons, Bool.and_eq_true, List.all_eq_true] at h1
      exact .inr ⟨c, r, rfl, h1.1, h1.2⟩
theorem byte40 {c : UInt8} (h : (c.toNat : Int) = 40) : c = 40 := UInt8.toNat_inj.1 (by have : (40 : UInt8).toNat = 40 := rfl; omega)
theorem byte41 {c : UInt8} (h : (c.toNat : Int) = 41) : c = 41 := UInt8.toNat_inj.1 (by have : (41 : UInt8).toNat = 41 := rfl; omega)
theorem plainB_brk {c : UInt8} (h : brk c = true) : plainB [c] = true := by
  unfold brk brB at h
  simp only [Bool.or_eq_true, beq_iff_eq] at h
  have h2 : c = 40 ∨ c = 41 := by
    rcases h with h | h
    · exact .inl (byte40 h)
    · exact .inr (byte41 h)
  rcases h2 with rfl | rfl <;> decide
theorem plainB_inn {c : UInt8} {r : Bytes} (h : inn c = true) (h2 : ∀ d ∈ r, inn d = true) : plainB (c :: r) = true := by
  unfold plainB
  simp only [Bool.or_eq_true, Bool.and_eq_true, bne_iff_ne]
  refine .inr ⟨?_, by simp⟩
  simp only [List.all_cons, h, Bool.true_and, List.all_eq_true]
  exact h2
theorem plainB_ne {t : Bytes} (h : plainB t = true) : t ≠ [] := by
  rcases plainB_cases h with ⟨c, rfl, _⟩ | ⟨c, r, rfl, _⟩ <;> simp
theorem wrong_of_brk {c : UInt8} (h : brk c = true) : wrong c = false := by simp [wrong, h]
theorem wrong_of_inn {c : UInt8} (h : inn c = true) : wrong c = false := by simp [wrong, h]
theorem plainB_wrong {t : Bytes} (h : plainB t = true) : ∀ c ∈ t, wrong c = false := by
  rcases plainB_cases h with ⟨c, rfl, hb⟩ | ⟨c, r, rfl, h1, h2⟩
  · intro d hd; simp at hd; subst hd; exact wrong_of_brk hb
  · intro d hd
    rcases List.mem_cons.1 hd with rfl | hd
    · exact wrong_of_inn h1
    · exact wrong_of_inn (h2 d hd)
theorem badAt_none {l : Bytes} (h : ∀ c ∈ l, wrong c = false) : badAt l = none := by
  unfold badAt
  rw [List.findIdx?_eq_none_iff]
  intro c hc
  simp [h c hc]

/-- A word, with what cannot go on with it behind. -/
theorem toks_word {p : Nat} {t rest : Bytes} (h : plainB t = true) (hr : (∃ c, t = [c] ∧ brk c = true) ∨ (∀ c r, rest = c :: r → inn c = false)) : toks p none (t ++ rest) = (p, t) :: toks (p + t.length) none rest := by
  rcases plainB_cases h with ⟨c, rfl, hb⟩ | ⟨c, r, rfl, h1, h2⟩
  · rw [List.singleton_append, toks_brk hb]; rfl
  · rcases hr with ⟨d, hd, hb⟩ | hr
    · simp at hd
      obtain ⟨rfl, rfl⟩ := hd
      rw [brk_inn h1] at hb; cases hb
    · have h3 : (r ++ rest).takeWhile inn = r := by
        rw [List.takeWhile_append_of_pos h2]
        cases rest with
        | nil => simp
        | cons d s => rw [List.takeWhile_cons_of_neg (by simp [hr d s rfl]), List.append_nil]
      have h4 : (r ++ rest).dropWhile inn = rest := by
        rw [List.dropWhile_append_of_pos h2]
        cases rest with
        | nil => simp
        | cons d s => rw [List.dropWhile_cons_of_neg (by simp [hr d s rfl])]
      rw [List.cons_append, toks_inn h1, h3, h4, List.length_cons]
      congr 2
      omega
theorem toks_spaces (g : Nat) (p : Nat) (l : Bytes) : toks p none (List.replicate g 32 ++ l) = toks (p + g) none l := by
  induction g generalizing p with
  | zero => simp
  | succ g ih =>
    rw [List.replicate_succ, List.cons_append, toks_spc (by decide), ih]
    congr 1
    omega

/-- The words of joined words, each at its place. -/
def placed : Nat → Option Bytes → List Bytes → List Tok
  | _, _, [] => []
  | p, prev, t :: r => (p + (sepOf prev t).length, t) :: placed (p + (sepOf prev t).length + t.length) (some t) r
theorem placed_texts (p : Nat) (prev : Option Bytes) (l : List Bytes) : (placed p prev l).map (·.2) = l := by
  induction l generalizing p prev with
  | nil => rfl
  | cons t r ih => simp [placed, ih]
theorem toks_join {l : List Bytes} (h : ∀ t ∈ l, plainB t = true) : ∀ (p : Nat) (prev : Option Bytes), toks p none (joinS prev l) = placed p prev l := by
  induction l with
  | nil => intro p prev; simp [joinS, toks, flushT, placed]
  | cons t r ih =>
    intro p prev
    have ht := h t List.mem_cons_self
    have hr : (∃ c, t = [c] ∧ brk c = true) ∨ (∀ c s, joinS (some t) r = c :: s → inn c = false) := by
      rcases plainB_cases ht with g | ⟨c, s, rfl, h1, h2⟩
      · exact .inl g
      · refine .inr fun d u hd => ?_
        cases r with
        | nil => simp [joinS] at hd
        | cons x r' =>
          simp only [joinS] at hd
          by_cases hx : x = [41]
          · subst hx
            simp [sepOf] at hd
            rw [← hd.1]; decide
          · have hc : c :: s ≠ [40] := by
              intro e
              simp at e
              rw [e.1] at h1
              revert h1; decide
            rw [show sepOf (some (c :: s)) x = [32] from by unfold sepOf; dsimp only; rw [if_neg hx, if_neg hc]] at hd
            simp at hd
            rw [← hd.1]; decide
    simp only [joinS, placed, List.append_assoc]
    have hs : ∀ q, toks q none (t ++ joinS (some t) r) = (q, t) :: placed (q + t.length) (some t) r := by
      intro q
      rw [toks_word ht hr, ih (fun x hx => h x (List.mem_cons_of_mem _ hx))]
    have h2 : sepOf prev t = [] ∨ sepOf prev t = [32] := by
      cases prev with
      | none => exact .inl rfl
      | some q =>
        unfold sepOf
        dsimp only
        split
        · exact .inl rfl
        · split
          · exact .inl rfl
          · exact .inr rfl
    rcases h2 with h2 | h2
    · rw [h2, List.nil_append, hs]; rfl
    · rw [h2, List.singleton_append, toks_spc (by decide), hs]; rfl
theorem sepOf_wrong (prev : Option Bytes) (t : Bytes) : ∀ c ∈ sepOf prev t, wrong c = false := by
  cases prev with
  | none => simp [sepOf]
  | some q =>
    unfold sepOf
    dsimp only
    split
    · simp
    · split
      · simp
      · intro c hc; simp at hc; subst hc; decide
theorem join_good {l : List Bytes} (h : ∀ t ∈ l, plainB t = true) : ∀ (prev : Option Bytes), ∀ c ∈ joinS prev l, wrong c = false := by
  induction l with
  | nil => intro prev; simp [joinS]
  | cons t r ih =>
    intro prev c hc
    simp only [joinS, List.mem_append] at hc
    rcases hc with (hc | hc) | hc
    · exact sepOf_wrong prev t c hc
    · exact plainB_wrong (h t List.mem_cons_self) c hc
    · exact ih (fun x hx => h x (List.mem_cons_of_mem _ hx)) _ c hc
theorem words_join {l : List Bytes} (h : ∀ t ∈ l, plainB t = true) (hl : (joinS none l).length ≤ 4096) : wordsS (joinS none l) = (placed 0 none l, 0, 0) := by
  unfold wordsS
  rw [if_neg (by omega), badAt_none (join_good h none), toks_join h]
theorem words_long_ (l : Bytes) (hl : 4096 < l.length) : wordsS l = ([], 0, 40) := by unfold wordsS; rw [if_pos hl]

/-- Each word stands in the text at its place; between words spaces; each may be a word; two words without a space between: one is a bracket. -/
inductive Chain : Option Bytes → Nat → Bytes → List Tok → Prop
  | done {prev : Option Bytes} {p : Nat} {g : Nat} : Chain prev p (List.replicate g 32) []
  | word {prev : Option Bytes} {p g : Nat} {t rest : Bytes} {r : List Tok} (ht : plainB t = true) (hg : g = 0 → prev = none ∨ prev = some [40] ∨ prev = some [41] ∨ t = [40] ∨ t = [41])
      (h : Chain (some t) (p + g + t.length) rest r) : Chain prev p (List.replicate g 32 ++ (t ++ rest)) ((p + g, t) :: r)
theorem brk_text {c : UInt8} (h : brk c = true) : [c] = ([40] : Bytes) ∨ [c] = ([41] : Bytes) := by
  unfold brk brB at h
  simp only [Bool.or_eq_true, beq_iff_eq] at h
  rcases h with h | h
  · exact .inl (by rw [byte40 h])
  · exact .inr (by rw [byte41 h])
theorem Chain.space {prev : Option Bytes} {p : Nat} {l : Bytes} {ys : List Tok} (h : Chain none (p + 1) l ys) : Chain prev p (32 :: l) ys := by
  cases h with
  | @done _ _ g => exact Chain.done (g := g + 1)
  | @word _ _ g t rest r ht hg h =>
    have := Chain.word (prev := prev) (p := p) (g := g + 1) ht (by omega) (r := r) (rest := rest) (by rw [show p + (g + 1) + t.length = p + 1 + g + t.length from by omega]; exact h)
    rw [List.replicate_succ, List.cons_append, show p + (g + 1) = p + 1 + g from by omega] at this
    exact this
theorem Chain.anyPrev {prev : Option Bytes} {p : Nat} {l : Bytes} {ys : List Tok} (h : Chain prev p l ys) (hb : ∀ x, prev = some x → True) : Chain none p l ys := by
  cases h with
  | done => exact Chain.done
  | word ht hg h => exact Chain.word ht (fun _ => .inl rfl) h
theorem toks_chain (n : Nat) : ∀ (l : Bytes) (p : Nat) (prev : Option Bytes), l.length ≤ n → (∀ c ∈ l, wrong c = false) → (prev = none ∨ prev = some [40] ∨ prev = some [41] ∨ ∀ c r, l = c :: r → inn c = false) → Chain prev p l (toks p none l) := by
  induction n with
  | zero =>
    intro l p prev hl hw hp
    obtain rfl : l = [] := List.eq_nil_of_length_eq_zero (by omega)
    exact Chain.done (g := 0)
  | succ n ih =>
    intro l p prev hl hw hp
    cases l with
    | nil => exact Chain.done (g := 0)
    | cons c r =>
      have hr : ∀ d ∈ r, wrong d = false := fun d hd => hw d (List.mem_cons_of_mem _ hd)
      simp only [List.length_cons] at hl
      rcases wrong_cases c with g | g | g | g
      · rw [hw c List.mem_cons_self] at g; cases g
      · rw [toks_spc g]
        have hc : c = 32 := by simpa [spc] using g
        subst hc
        exact Chain.space (ih r (p + 1) none (by omega) hr (.inl rfl))
      · rw [toks_brk g]
        have hb := brk_text g
        refine Chain.word (g := 0) (t := [c]) (plainB_brk g) (fun _ => .inr (.inr (.inr hb))) ?_
        exact ih r (p + 1) (some [c]) (by omega) hr (.inr (by rcases hb with h | h <;> simp [h]))
      · rw [toks_inn g]
        have h1 := List.takeWhile_append_dropWhile (p := inn) (l := r)
        have h2 : ∀ d ∈ r.takeWhile inn, inn d = true := List.all_eq_true.1 List.all_takeWhile
        have h3 : (r.dropWhile inn).length ≤ n := by have := congrArg List.length h1; rw [List.length_append] at this; omega
        have hp2 : prev = none ∨ prev = some [40] ∨ prev = some [41] := by
          rcases hp with h | h | h | h
          · exact .inl h
          · exact .inr (.inl h)
          · exact .inr (.inr h)
          · rw [h c r rfl] at g; cases g
        have := Chain.word (prev := prev) (p := p) (g := 0) (t := c :: r.takeWhile inn) (plainB_inn g h2) (fun _ => by
            rcases hp2 with h | h | h
            · exact .inl h
            · exact .inr (.inl h)
            · exact .inr (.inr (.inl h))) (ih (r.dropWhile inn) (p + 1 + (r.takeWhile inn).length) (some (c :: r.takeWhile inn)) h3 (fun d hd => hr d (by rw [← h1]; exact List.mem_append_right _ hd)) (.inr (.inr (.inr (by
              intro d s hd
              have := List.head?_dropWhile_not inn r
              rw [hd] at this
              simpa using this)))) |> fun h => by rw [show p + 0 + (c :: r.takeWhile inn).length = p + 1 + (r.takeWhile inn).length from by simp; omega]; exact h)
        simpa [h1] using this
end Go.Proofs.YtpnnhhgojijlbaaDoor
