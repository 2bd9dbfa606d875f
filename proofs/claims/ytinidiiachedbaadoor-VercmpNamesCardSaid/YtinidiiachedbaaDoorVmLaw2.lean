/- What stands behind a version, and ahead; parts put together anew with nothing between them. In plain terms. -/
import Derived.Test.YtinidiiachedbaaDoorVmLaw
namespace Go.Proofs.YtinidiiachedbaaDoor
open Go.RowKit

theorem kk_dot : kk 46 = 0 := rfl
theorem pts_dot (x y : Bytes) : pts (x ++ 46 :: y) = pts x ++ pts y := pts_nothing x y kk_dot
theorem pts_tilde (x y : Bytes) : pts (x ++ 126 :: y) = pts x ++ (1, []) :: pts y := pts_sign (d := 126) x y (by decide) (by decide)
theorem pts_caret (x y : Bytes) : pts (x ++ 94 :: y) = pts x ++ (3, []) :: pts y := pts_sign (d := 94) x y (by decide) (by decide)
theorem pts_dot_tilde (x y : Bytes) : pts (x ++ 46 :: 126 :: y) = pts x ++ (1, []) :: pts y := by
  rw [pts_dot]; exact congrArg _ (pts_tilde [] y)
theorem pts_dot_caret (x y : Bytes) : pts (x ++ 46 :: 94 :: y) = pts x ++ (3, []) :: pts y := by
  rw [pts_dot]; exact congrArg _ (pts_caret [] y)
theorem cm_tail (p x : List Prt) : cm (p ++ x) p = cm x [] := by
  conv => lhs; arg 2; rw [← List.append_nil p]
  exact cm_ahead p x []
theorem cm_tail' (p x : List Prt) : cm p (p ++ x) = cm [] x := by
  conv => lhs; arg 1; rw [← List.append_nil p]
  exact cm_ahead p [] x
theorem behind1 (a b : Bytes) : comp (a ++ 46 :: 126 :: b) a = -1 := by
  rw [comp_cm, pts_dot_tilde, cm_tail]; simp only [cm]; decide
theorem behind2 (a b : Bytes) : comp a (a ++ 46 :: 94 :: b) = -1 := by
  rw [comp_cm, pts_dot_caret, cm_tail']; simp only [cm]; decide
theorem behind3 (a b : Bytes) : comp (a ++ 46 :: 94 :: b) (a ++ [46, 122]) = -1 := by
  rw [comp_cm, pts_dot_caret, pts_dot, cm_ahead, show pts [122] = [(4, [122])] by decide]
  simp only [cm]; rw [show cmpP (3, []) (4, [122]) = -1 by decide]; rfl
theorem behind4 (a : Bytes) : comp (a ++ [46, 122, 122, 122]) (a ++ [46, 48]) = -1 := by
  rw [comp_cm, pts_dot, pts_dot, cm_ahead]; decide
theorem behind5 (a b : Bytes) : comp (a ++ 126 :: b) a = -1 := by
  rw [comp_cm, pts_tilde, cm_tail]; simp only [cm]; decide
theorem behind6 (a b : Bytes) : comp (a ++ 94 :: b) a = 1 := by
  rw [comp_cm, pts_caret, cm_tail]; simp only [cm]; decide
theorem ahead1 (x a b : Bytes) : comp (x ++ 46 :: a) (x ++ 46 :: b) = comp a b := by
  rw [comp_cm, comp_cm, pts_dot, pts_dot, cm_ahead]

/-- what a part looks like -/
def WfP (p : Prt) : Prop := (p.1 = 1 ∧ p.2 = []) ∨ (p.1 = 3 ∧ p.2 = []) ∨ (p.1 = 4 ∧ p.2 ≠ [] ∧ ∀ c ∈ p.2, kk c = 4) ∨ (p.1 = 5 ∧ (∀ c ∈ p.2, kk c = 5) ∧ p.2.dropWhile (· == 48) = p.2)
theorem kk_all (c : UInt8) : kk c = 0 ∨ kk c = 1 ∨ kk c = 3 ∨ kk c = 4 ∨ kk c = 5 := kd_cases _
theorem drop_twice (p : UInt8 → Bool) : ∀ l : Bytes, (l.dropWhile p).dropWhile p = l.dropWhile p
  | [] => rfl
  | c :: l => by
    rw [List.dropWhile_cons]
    cases h : p c
    · simp [List.dropWhile_cons, h]
    · simp only [if_true]; exact drop_twice p l
theorem pts_wf (n : Nat) : ∀ l : Bytes, l.length ≤ n → ∀ p ∈ pts l, WfP p := by
  induction n with
  | zero =>
    intro l hl p hp
    obtain rfl := List.eq_nil_of_length_eq_zero (Nat.le_zero.1 hl)
    simp [pts_nil] at hp
  | succ n ih =>
    intro l hl p hp
    cases l with
    | nil => simp [pts_nil] at hp
    | cons c l =>
      simp only [List.length_cons] at hl
      have hd : (l.dropWhile (like c)).length ≤ n := by have := (List.dropWhile_suffix (l := l) (like c)).length_le; omega
      have ht : ∀ x ∈ l.takeWhile (like c), kk x = kk c := by
        intro x hx
        have := List.all_takeWhile (p := like c) (l := l)
        have := List.all_eq_true.1 this x hx
        simpa [like] using this
      rcases kk_all c with h | h | h | h | h
      · rw [pts_zero _ h] at hp; exact ih l (by omega) p hp
      · rw [pts_one _ (by omega) (by omega)] at hp
        rcases List.mem_cons.1 hp with rfl | hp
        · exact .inl ⟨h, rfl⟩
        · exact ih l (by omega) p hp
      · rw [pts_one _ (by omega) (by omega)] at hp
        rcases List.mem_cons.1 hp with rfl | hp
        · exact .inr (.inl ⟨h, rfl⟩)
        · exact ih l (by omega) p hp
      · rw [pts_word _ h] at hp
        rcases List.mem_cons.1 hp with rfl | hp
        · refine .inr (.inr (.inl ⟨rfl, by simp, fun x hx => ?_⟩))
          rcases List.mem_cons.1 hx with rfl | hx
          · exact h
          · rw [ht x hx]; exact h
        · exact ih _ hd p hp
      · rw [pts_num _ h] at hp
        rcases List.mem_cons.1 hp with rfl | hp
        · refine .inr (.inr (.inr ⟨rfl, fun x hx => ?_, drop_twice _ _⟩))
          have hx := (List.dropWhile_suffix (l := c :: l.takeWhile (like c)) (· == 48)).subset hx
          rcases List.mem_cons.1 hx with rfl | hx
          · exact h
          · rw [ht x hx]; exact h
        · exact ih _ hd p hp
/-- a part's text, with z zeros ahead of a number -/
def ptxt (z : Nat) (p : Prt) : Bytes := (if p.1 = 1 then [126] else if p.1 = 3 then [94] else if p.1 = 5 then List.replicate z 48 else []) ++ p.2
theorem take_all {p : UInt8 → Bool} : ∀ l : Bytes, (∀ x ∈ l, p x = true) → l.takeWhile p = l ∧ l.dropWhile p = []
  | [], _ => ⟨rfl, rfl⟩
  | c :: l, h => by
    have := take_all l (fun x hx => h x (by simp [hx]))
    simp [List.takeWhile_cons, List.dropWhile_cons, h c (by simp), this.1, this.2]
theorem drop_zeros : ∀ (z : Nat) (l : Bytes), (List.replicate z (48 : UInt8) ++ l).dropWhile (· == 48) = l.dropWhile (· == 48)
  | 0, l => rfl
  | z + 1, l => by simp [List.replicate_succ, List.dropWhile_cons, drop_zeros z l]
theorem pts_ptxt {p : Prt} (h : WfP p) {z : Nat} (hz : 1 ≤ z) : pts (ptxt z p) = [p] := by
  obtain ⟨k, t⟩ := p
  rcases h with ⟨h1, h2⟩ | ⟨h1, h2⟩ | ⟨h1, h2, h3⟩ | ⟨h1, h3, h4⟩ <;> dsimp only at *
  · subst h1; subst h2; rfl
  · subst h1; subst h2; rfl
  · subst h1
    cases t with
    | nil => exact absurd rfl h2
    | cons c r =>
      have hc := h3 c (by simp)
      have := take_all (p := like c) r (fun x hx => by simp [like, hc, h3 x (by simp [hx])])
      simp only [ptxt]
      rw [if_neg (by decide), if_neg (by decide), if_neg (by decide), List.nil_append, pts_word _ hc, this.1, this.2, pts_nil]
  · subst h1
    simp only [ptxt]
    rw [if_neg (by decide), if_neg (by decide), if_pos trivial]
    obtain ⟨z, rfl⟩ : ∃ y, z = y + 1 := ⟨z - 1, by omega⟩
    rw [List.replicate_succ, List.cons_append, pts_num _ (show kk 48 = 5 from rfl)]
    have := take_all (p := like 48) (List.replicate z 48 ++ t) (fun x hx => by
      rcases List.mem_append.1 hx with hx | hx
      · rw [(List.mem_replicate.1 hx).2]; rfl
      · have := h3 x hx; simp only [like, this]; rfl)
    rw [this.1, this.2, pts_nil, List.dropWhile_cons]
    rw [if_pos (by rfl), drop_zeros, h4]
/-- parts put together, nothing behind each -/
def glued (z : Nat) (n : UInt8) : List Prt → Bytes
  | [] => []
  | p :: l => ptxt z p ++ n :: glued z n l
theorem pts_glued {z : Nat} (hz : 1 ≤ z) {n : UInt8} (hn : kk n = 0) : ∀ l : List Prt, (∀ p ∈ l, WfP p) → pts (glued z n l) = l
  | [], _ => rfl
  | p :: l, h => by
    rw [glued, pts_nothing _ _ hn, pts_ptxt (h p (by simp)) hz, pts_glued hz hn l (fun q hq => h q (by simp [hq]))]; rfl
theorem nothing1 {z : Nat} (hz : 1 ≤ z) {n : UInt8} (hn : kk n = 0) (a : Bytes) : pts (n :: glued z n (pts a)) = pts a := by
  rw [pts_zero _ hn, pts_glued hz hn _ (pts_wf _ a (Nat.le_refl _))]
theorem nothing2 {n : UInt8} (hn : kk n = 0) (a : Bytes) : pts (n :: (a ++ [n])) = pts a := by
  rw [pts_zero _ hn, pts_nothing _ _ hn, pts_nil, List.append_nil]
theorem pts_single (c : UInt8) : pts [c] = [] ↔ kk c = 0 := by
  rcases kk_all c with h | h | h | h | h
  · rw [pts_zero _ h]; simp [h, pts_nil]
  · rw [pts_one _ (by omega) (by omega)]; simp [h]
  · rw [pts_one _ (by omega) (by omega)]; simp [h]
  · rw [pts_word _ h]; simp [h]
  · rw [pts_num _ h]; simp [h]
theorem glued_snoc (z : Nat) (n : UInt8) (p : Prt) : ∀ l : List Prt, glued z n (l ++ [p]) = glued z n l ++ ptxt z p ++ [n]
  | [] => by simp [glued]
  | q :: l => by simp [glued, glued_snoc z n p l]
end Go.Proofs.YtinidiiachedbaaDoor
