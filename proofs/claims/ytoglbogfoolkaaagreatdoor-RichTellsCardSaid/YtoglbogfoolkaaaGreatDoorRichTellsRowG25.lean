/- RichBetween, RichPlain2 -/
import Derived.Test.YtoglbogfoolkaaaGreatDoorRichTellsRowG24
import Derived.Test.YtoglbogfoolkaaaGreatDoorRichTellsRowG12
namespace Go.Proofs.YtoglbogfoolkaaaGreatDoor
section
/- Walks: the word ahead of a part (rich.between). -/


open Go.RowKit Go.Shelf
set_option linter.unusedVariables false

theorem kind_word {k : Nat} (h2 : 2 ≤ k) (h7 : k < 8) : (kindL[k]'h7).1 = kwd (k : Int) ∧ (kindL[k]'h7).2 = mostK (k : Int) := by
  obtain rfl | rfl | rfl | rfl | rfl | rfl : k = 2 ∨ k = 3 ∨ k = 4 ∨ k = 5 ∨ k = 6 ∨ k = 7 := by omega
  all_goals exact ⟨rfl, rfl⟩
theorem KindsIn.at_ {w : World} (h : KindsIn w) {k : Nat} (h2 : 2 ≤ k) (h7 : k < 8) : w.cell? ⟨0, k * 2, none⟩ = some (.string (bs (kwd (k : Int)))) ∧ w.cell? ⟨0, k * 2 + 1, none⟩ = some (.int .i64 (mostK (k : Int) : Int)) := by
  have := h.2 k h7
  rw [(kind_word h2 h7).1, (kind_word h2 h7).2] at this
  exact this
set_option maxRecDepth 100000 in
set_option maxHeartbeats 4000000 in
theorem rbetween_any (k i : Nat) (h2 : 2 ≤ k) (h7 : k < 8) (w : World) (h : KindsIn w) : Calls Tryz.prog 157 #[.int .u8 (k : Int), .int .i64 (i : Int)] w fun e w' => e = .returned (.string (bs (betweenK (k : Int) i))) ∧ Below w.heap.size w w' := by
  obtain ⟨c0, c1⟩ := h.at_ h2 h7
  obtain ⟨mo, hmo⟩ : ∃ mo, mo = mostK (k : Int) := ⟨_, rfl⟩
  obtain ⟨kw, hkw⟩ : ∃ kw, kw = bs (kwd (k : Int)) := ⟨_, rfl⟩
  rw [← hmo] at c1
  rw [← hkw] at c0
  have k0 : (0 : Int) ≤ (k : Int) := by omega
  have k1 : (k : Int) < 8 := by omega
  have HK := Lib.hid hkw
  by_cases q : i = 2
  · subst q
    by_cases q2 : mo = 3
    · have hr := Lib.hid (show bs (betweenK (k : Int) 2) = ⟨#[101, 108, 115, 101]⟩ by unfold betweenK; rw [if_pos ⟨rfl, by rw [← hmo]; exact q2⟩]; rfl)
      subst q2
      clear h hmo hkw h2 h7
      go_enter Tryz.func157, Tryz.ntmps157
      go_wp2_with fail
      go_ret
      exact ⟨by rw [hr.out]; rfl, Below.refl _ _⟩
    · have q3 : ((mo : Int) == 3) = false := by simp only [beq_eq_false_iff_ne]; omega
      have hr := Lib.hid (show bs (betweenK (k : Int) 2) = kw by unfold betweenK; rw [if_neg (by rw [← hmo]; exact fun hh => q2 hh.2), hkw])
      clear h hmo hkw h2 h7 q2
      go_enter Tryz.func157, Tryz.ntmps157
      go_wp2_with fail
      go_ret
      exact ⟨by rw [hr.out]; rfl, Below.refl _ _⟩
  · have q3 : ((i : Int) == 2) = false := by simp only [beq_eq_false_iff_ne]; omega
    have hr := Lib.hid (show bs (betweenK (k : Int) i) = kw by unfold betweenK; rw [if_neg (fun hh => q hh.1), hkw])
    clear h hmo hkw h2 h7 q
    go_enter Tryz.func157, Tryz.ntmps157
    go_wp2_with fail
    go_ret
    exact ⟨by rw [hr.out]; rfl, Below.refl _ _⟩
end
section
/- Rich dependencies in plain terms: what is read of a text; spaces about it; places. -/


open Go.RowKit

def zeroRT : RT := .mk 0 zeroT []
/-- what a text is read as: the dependency, or a place and an error's number -/
def parseL (s : Bytes) : Option RT × Nat × Int :=
  if (wordsS s).2.2 ≠ 0 then (none, (wordsS s).2.1, (wordsS s).2.2) else parseT s.length (wordsS s).1
mutual
def sameT : RT → RT → Bool
  | .mk k d l, .mk k' d' l' => (decide (k = k') && decide (d.name = d'.name) && decide (d.op = d'.op) && decide (d.evr.epoch = d'.evr.epoch) && decide (d.evr.ver = d'.evr.ver) && decide (d.evr.rel = d'.evr.rel)) && sameL l l'
def sameL : List RT → List RT → Bool
  | [], [] => true
  | a :: l, b :: r => sameT a b && sameL l r
  | [], _ :: _ => false
  | _ :: _, [] => false
end
theorem dp_ext {d d' : Dp} (h1 : d.name = d'.name) (h2 : d.op = d'.op) (h3 : d.evr.epoch = d'.evr.epoch) (h4 : d.evr.ver = d'.evr.ver) (h5 : d.evr.rel = d'.evr.rel) : d = d' := by
  obtain ⟨n, o, e, v, r⟩ := d
  obtain ⟨n', o', e', v', r'⟩ := d'
  simp only at h1 h2 h3 h4 h5
  subst h1 h2 h3 h4 h5
  rfl
mutual
theorem sameT_iff : ∀ a b : RT, sameT a b = true ↔ a = b
  | .mk k d l, .mk k' d' l' => by
    simp only [sameT, Bool.and_eq_true, decide_eq_true_eq, sameL_iff l l', RT.mk.injEq]
    constructor
    · rintro ⟨⟨⟨⟨⟨⟨h0, h1⟩, h2⟩, h3⟩, h4⟩, h5⟩, h6⟩
      exact ⟨h0, dp_ext h1 h2 h3 h4 h5, h6⟩
    · rintro ⟨rfl, rfl, rfl⟩
      simp
theorem sameL_iff : ∀ l r : List RT, sameL l r = true ↔ l = r
  | [], [] => by simp [sameL]
  | a :: l, b :: r => by simp [sameL, sameT_iff a b, sameL_iff l r]
  | [], _ :: _ => by simp [sameL]
  | _ :: _, [] => by simp [sameL]
end
theorem sameT_self (a : RT) : sameT a a = true := (sameT_iff a a).2 rfl
/- places -/
theorem toks_place (l : Bytes) : ∀ (p : Nat) (cur : Option Tok), (∀ t, cur = some t → t.1 ≤ p) → ∀ x ∈ toks p cur l, x.1 ≤ p + l.length := by
  induction l with
  | nil =>
    intro p cur hc x hx
    cases cur with
    | none => simp [toks, flushT] at hx
    | some t => simp [toks, flushT] at hx; subst hx; simpa using hc _ rfl
  | cons c r ih =>
    intro p cur hc x hx
    have h0 : ∀ x ∈ toks (p + 1) none r, x.1 ≤ p + (r.length + 1) := fun x hx => by have := ih (p + 1) none (by simp) x hx; omega
    have tail : ∀ x ∈ (if spc c then toks (p + 1) none r else if brk c then (p, [c]) :: toks (p + 1) none r else [(p, [])]), x.1 ≤ p + (r.length + 1) := by
      intro x hx
      split at hx
      · exact h0 x hx
      · split at hx
        · rcases List.mem_cons.1 hx with rfl | hx
          · simp
          · exact h0 x hx
        · simp at hx; subst hx; simp
    simp only [List.length_cons]
    cases cur with
    | none =>
      by_cases g : inn c = true
      · rw [toks, if_pos g] at hx
        have := ih (p + 1) (some (p, [c])) (by intro t ht; cases ht; simp) x hx
        omega
      · rw [toks, if_neg g] at hx
        exact tail x hx
    | some t =>
      obtain ⟨q, t⟩ := t
      have hq : q ≤ p := hc _ rfl
      by_cases g : inn c = true
      · rw [toks, if_pos g] at hx
        have := ih (p + 1) (some (q, t ++ [c])) (by intro t ht; cases ht; simp only; omega) x hx
        omega
      · rw [toks, if_neg g] at hx
        rcases List.mem_cons.1 hx with rfl | hx
        · simp only; omega
        · exact tail x hx
/-- the words of a text are small, their places within it -/
theorem words_small (s : Bytes) : ∀ x ∈ (wordsS s).1, x.2.length ≤ 4096 ∧ x.1 ≤ s.length ∧ x.1 ≤ 4096 := by
  intro x hx
  unfold wordsS at hx
  split at hx
  · simp at hx
  · split at hx
    · simp at hx
    · have h1 := toks_text s 0 none x hx
      have h2 := toks_place s 0 none (by simp) x hx
      simp only [curLen] at h1
      omega
theorem words_len (s : Bytes) : (wordsS s).1.length ≤ 4096 := by
  unfold wordsS
  split
  · simp
  · split
    · simp
    · have h1 := toks_len s 0 none
      simp only [flushT, List.length_nil] at h1
      dsimp only
      omega
theorem parseL_some {s : Bytes} {t : RT} (h : (parseL s).1 = some t) : parseL s = (some t, 0, 0) := by
  unfold parseL at h ⊢
  split at h
  · cases h
  · rename_i h0; rw [if_neg h0]; exact parse_some h
theorem parseL_iff {s : Bytes} {t : RT} : (parseL s).1 = some t ↔ (wordsS s).2.2 = 0 ∧ t.whole = true ∧ txt (wordsS s).1 = t.words := by
  unfold parseL
  by_cases h : (wordsS s).2.2 = 0
  · rw [if_neg (by simp [h]), parse_iff]; simp [h]
  · rw [if_pos h]; simp [h]
/- spaces about a text -/
end
end Go.Proofs.YtoglbogfoolkaaaGreatDoor
