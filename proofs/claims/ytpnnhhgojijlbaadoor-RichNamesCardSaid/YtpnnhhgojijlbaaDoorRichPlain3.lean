/- Rich dependencies in plain terms: their text; unlike ones have unlike texts. -/
import Derived.Test.YtpnnhhgojijlbaaDoorRichPlain2
import Derived.Test.YtpnnhhgojijlbaaDoorRlPlain2
namespace Go.Proofs.YtpnnhhgojijlbaaDoor
open Go.RowKit

def showR (t : RT) : Bytes × Int := if t.whole = true then (if 4096 < (joinS none t.words).length then ([], 40) else (joinS none t.words, 0)) else ([], 4)
theorem sgn_inn {c : UInt8} (h : sgn c = true) : inn c = true := by
  unfold sgn sgnI at h
  unfold inn innB brB
  simp only [decide_eq_true_eq] at h
  have h2 := UInt8.toNat_lt c
  simp only [Bool.and_eq_true, decide_eq_true_eq, Bool.not_eq_true', Bool.or_eq_false_iff, beq_eq_false_iff_ne, ne_eq]
  omega
theorem opc_inn {c : UInt8} (h : opc c = true) : inn c = true := by
  unfold opc at h
  simp only [Bool.or_eq_true, beq_iff_eq] at h
  rcases h with (rfl | rfl) | rfl <;> decide
theorem plainB_all {l : Bytes} (h : ∀ c ∈ l, inn c = true) (hne : l ≠ []) : plainB l = true := by
  unfold plainB
  simp only [Bool.or_eq_true, Bool.and_eq_true, List.all_eq_true, bne_iff_ne]
  exact .inr ⟨h, hne⟩
theorem dwords_plain {d : Dp} (h : dmayB d = true) : ∀ w ∈ dwords d, plainB w = true := by
  intro w hw
  have hn := name_iff.1 (dmay_iff.1 h).1
  have h1 : plainB d.name = true := plainB_all (fun c hc => sgn_inn (hn.2.2.1 c hc)) (by intro e; rw [e] at hn; simp at hn)
  unfold dwords at hw
  split at hw
  · simp at hw; subst hw; exact h1
  · rename_i h0
    simp only [List.mem_cons, List.not_mem_nil, or_false] at hw
    have hm : mayB d.evr true = true := by
      rcases (dmay_iff.1 h).2.2 with ⟨e, _⟩ | ⟨_, _, e⟩
      · exact absurd e h0
      · exact e
    rcases hw with rfl | rfl | rfl
    · exact h1
    · refine plainB_all (fun c hc => opc_inn (opText_opc _ c hc)) ?_
      rcases opMay_cases (dmay_iff.1 h).2.1 with e | e | e | e | e | e
      · exact absurd e h0
      all_goals rw [e]; decide
    · refine plainB_all (fun c hc => sgn_inn (showL_sgn hm c hc)) ?_
      intro e
      have hv := (word_iff.1 (may_iff.1 hm).2.2.1).1
      have hl := congrArg List.length e
      unfold showL at hl
      simp only [List.length_append, List.length_nil] at hl
      omega
theorem kwd_plain (k : Int) : plainB (kwd k) = true := by
  unfold kwd; repeat' split
  all_goals decide
theorem between_plain (k : Int) (i : Nat) : plainB (betweenK k i) = true := by
  unfold betweenK; split
  · decide
  · exact kwd_plain k
theorem dwords_short {d : Dp} (h : dmayB d = true) : ∀ w ∈ dwords d, w.length ≤ 150 := by
  intro w hw
  have hn := name_iff.1 (dmay_iff.1 h).1
  unfold dwords at hw
  split at hw
  · simp at hw; subst hw; omega
  · rename_i h0
    simp only [List.mem_cons, List.not_mem_nil, or_false] at hw
    have hm : mayB d.evr true = true := by
      rcases (dmay_iff.1 h).2.2 with ⟨e, _⟩ | ⟨_, _, e⟩
      · exact absurd e h0
      · exact e
    rcases hw with rfl | rfl | rfl
    · omega
    · rcases opMay_cases (dmay_iff.1 h).2.1 with e | e | e | e | e | e
      all_goals rw [e]; decide
    · have := showL_len hm; omega
theorem between_short (k : Int) (i : Nat) : (betweenK k i).length ≤ 150 := by
  unfold betweenK kwd; repeat' split
  all_goals decide
theorem sepW_mem {k : Int} {i : Nat} {w : Bytes} (h : w ∈ sepW k i) : w = betweenK k i := by
  unfold sepW at h; split at h <;> simp at h; exact h
/-- whatever a word of a plain dependency and the words of brackets have, all words have -/
theorem words_each (P : Bytes → Prop) (hd : ∀ d, dmayB d = true → ∀ w ∈ dwords d, P w) (hb : ∀ k i, P (betweenK k i)) (h40 : P [40]) (h41 : P [41]) : (∀ t : RT, t.okB = true → ∀ w ∈ t.words, P w) :=
  go
where
  go : ∀ t : RT, t.okB = true → ∀ w ∈ t.words, P w
  | .mk k d l, h, w, hw => by
    by_cases hk : k = 1
    · simp only [RT.okB, if_pos hk, Bool.and_eq_true] at h
      simp only [RT.words, if_pos hk] at hw
      exact hd d h.2 w hw
    · simp only [RT.okB, if_neg hk, Bool.and_eq_true] at h
      simp only [RT.words, if_neg hk, List.mem_cons, List.mem_append, List.not_mem_nil, or_false] at hw
      rcases hw with rfl | hw | rfl
      · exact h40
      · exact goL k l h.2.2.2 0 w hw
      · exact h41
  goL (k : Int) : ∀ l : List RT, okL l = true → ∀ (i : Nat), ∀ w ∈ wordsR k i l, P w
  | [], _, i, w, hw => by simp [wordsR] at hw
  | a :: l, h, i, w, hw => by
    simp only [okL, Bool.and_eq_true] at h
    simp only [wordsR, List.mem_append] at hw
    rcases hw with hw | hw | hw
    · rw [sepW_mem hw]; exact hb k i
    · exact go a h.1 w hw
    · exact goL k l h.2 (i + 1) w hw
theorem words_plain {t : RT} (h : t.okB = true) : ∀ w ∈ t.words, plainB w = true := words_each _ (fun _ h => dwords_plain h) between_plain (by decide) (by decide) t h
theorem words_short' {t : RT} (h : t.okB = true) : ∀ w ∈ t.words, w.length ≤ 150 := words_each _ (fun _ h => dwords_short h) between_short (by decide) (by decide) t h
mutual
theorem words_many : ∀ t : RT, t.words.length ≤ 5 * t.parts - 1
  | .mk k d l => by
    have hp := parts_pos (.mk k d l)
    simp only [RT.words, RT.parts] at *
    split
    · rcases dwords_len d with e | e <;> omega
    · have := wordsR_many k 0 l
      simp only [List.length_cons, List.length_append, List.length_nil]
      omega
theorem wordsR_many (k : Int) : ∀ (i : Nat) (l : List RT), (wordsR k i l).length ≤ 5 * partsL l
  | i, [] => by simp [wordsR]
  | i, a :: l => by
    have h1 := words_many a
    have h2 := wordsR_many k (i + 1) l
    have h3 := parts_pos a
    have h4 : (sepW k i).length ≤ 1 := by unfold sepW; split <;> simp
    simp only [wordsR, partsL, List.length_append]
    omega
end
theorem weigh_le {n : Nat} : ∀ l : List Bytes, (∀ w ∈ l, w.length ≤ n) → weigh l ≤ l.length * (n + 1)
  | [], _ => by simp [weigh]
  | a :: l, h => by
    have h1 := weigh_le l fun w hw => h w (by simp [hw])
    have h2 := h a (by simp)
    simp only [weigh, List.map_cons, List.sum_cons, List.length_cons, Nat.add_mul] at *
    omega
theorem weigh_words {t : RT} (h : t.okB = true) (hp : t.parts ≤ 1000000) : weigh t.words ≤ 1000000000 := by
  have h1 := weigh_le t.words (words_short' h)
  have h2 := words_many t
  have := Nat.mul_le_mul_right 151 (show t.words.length ≤ 5000000 by omega)
  omega
theorem words_text {t : RT} (h : t.okB = true) (hl : (joinS none t.words).length ≤ 4096) : (wordsS (joinS none t.words)).2.2 = 0 ∧ txt (wordsS (joinS none t.words)).1 = t.words := by
  rw [words_join (words_plain h) hl]
  exact ⟨rfl, placed_texts _ _ _⟩
theorem show_inj {a b : RT} (ha : (showR a).2 = 0) (hb : (showR b).2 = 0) : ((showR a).1 = (showR b).1 ↔ a = b) := by
  refine ⟨fun h => ?_, fun h => by rw [h]⟩
  unfold showR at ha hb h
  split at ha
  · rename_i w1
    split at ha
    · cases ha
    · rename_i l1
      split at hb
      · rename_i w2
        split at hb
        · cases hb
        · rename_i l2
          rw [if_pos w1, if_neg l1, if_pos w2, if_neg l2] at h
          have e1 := words_text (by have := w1; unfold RT.whole at this; simp only [Bool.and_eq_true] at this; exact this.1) (Nat.le_of_not_lt l1)
          have e2 := words_text (by have := w2; unfold RT.whole at this; simp only [Bool.and_eq_true] at this; exact this.1) (Nat.le_of_not_lt l2)
          exact words_inj w1 w2 (by rw [← e1.2, ← e2.2]; simp only at h; rw [h])
      · cases hb
  · cases ha
/-- what is shown is read -/
theorem show_back {t : RT} (h : (showR t).2 = 0) : (parseL (showR t).1).1 = some t := by
  unfold showR at h ⊢
  split at h
  · rename_i w1
    split at h
    · cases h
    · rename_i l1
      rw [if_pos w1, if_neg l1]
      have e1 := words_text (by have := w1; unfold RT.whole at this; simp only [Bool.and_eq_true] at this; exact this.1) (Nat.le_of_not_lt l1)
      exact parseL_iff.2 ⟨e1.1, w1, e1.2⟩
  · cases h
end Go.Proofs.YtpnnhhgojijlbaaDoor
