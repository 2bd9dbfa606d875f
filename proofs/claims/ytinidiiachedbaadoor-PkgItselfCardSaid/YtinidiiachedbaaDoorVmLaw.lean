/- The order of versions, in plain terms: turned about, of three, what stands ahead, what stands behind. -/
import Derived.Test.YtinidiiachedbaaDoorVmRefC
namespace Go.Proofs.YtinidiiachedbaaDoor
open Go.RowKit

theorem cmpP_lt {a b : Prt} : cmpP a b = -1 ↔ a.1 < b.1 ∨ (a.1 = b.1 ∧ ((a.1 = 5 ∧ (a.2.length < b.2.length ∨ (a.2.length = b.2.length ∧ Op.bytesLess a.2 b.2 = true))) ∨ (a.1 ≠ 5 ∧ Op.bytesLess a.2 b.2 = true))) := by
  rw [cmpP_or]
  rcases cmpI_cases a.1 b.1 with ⟨e, h⟩ | ⟨e, h⟩ | ⟨e, h⟩
  · rw [e]; simp [or3, h]
  · rw [e]
    by_cases h5 : a.1 = 5
    · have h5' : b.1 = 5 := by omega
      rw [if_pos ⟨h5, h5'⟩]
      rcases cmpI_cases a.2.length b.2.length with ⟨e2, h2⟩ | ⟨e2, h2⟩ | ⟨e2, h2⟩
      · rw [e2]; simp [or3]; right; exact ⟨by omega, .inl ⟨h5, .inl (by omega)⟩⟩
      · rw [e2]
        have h2' : a.2.length = b.2.length := by omega
        rcases cmpL_cases a.2 b.2 with ⟨e3, h3⟩ | ⟨e3, h3⟩ | ⟨e3, h3⟩
        · rw [e3]; simp [or3, h3, h5, h5', h2']
        · rw [e3, h3]; simp [or3, bl_irrefl, h5, h5']
        · rw [e3]; simp [or3, bl_asymm _ _ h3, h5, h5', h2']
      · rw [e2]
        have h2' : b.2.length < a.2.length := by omega
        simp [or3, h5, h5']
        omega
    · rw [if_neg (fun h => h5 h.1)]
      rcases cmpL_cases a.2 b.2 with ⟨e3, h3⟩ | ⟨e3, h3⟩ | ⟨e3, h3⟩
      · rw [e3]; simp [or3, h3, h]
        right; omega
      · rw [e3, h3]; simp [or3, bl_irrefl, h]
        try omega
      · rw [e3]; simp [or3, bl_asymm _ _ h3, h]
        try omega
  · rw [e]; simp [or3]; omega
theorem cmpP_lt_trans {a b c : Prt} (h1 : cmpP a b = -1) (h2 : cmpP b c = -1) : cmpP a c = -1 := by
  rw [cmpP_lt] at *
  rcases h1 with h1 | ⟨e1, h1⟩ <;> rcases h2 with h2 | ⟨e2, h2⟩
  · left; omega
  · left; omega
  · left; omega
  · right
    refine ⟨by omega, ?_⟩
    rcases h1 with ⟨k1, h1⟩ | ⟨k1, h1⟩ <;> rcases h2 with ⟨k2, h2⟩ | ⟨k2, h2⟩
    · left
      refine ⟨k1, ?_⟩
      rcases h1 with h1 | ⟨l1, h1⟩ <;> rcases h2 with h2 | ⟨l2, h2⟩
      · left; omega
      · left; omega
      · left; omega
      · right; exact ⟨by omega, bl_trans _ _ _ h1 h2⟩
    · exact absurd (by omega) k2
    · exact absurd (by omega) k1
    · right; exact ⟨k1, bl_trans _ _ _ h1 h2⟩

/-- two rows of parts, the end behind each -/
def cm : List Prt → List Prt → Int
  | [], [] => 0
  | [], b :: _ => cmpP fin b
  | a :: _, [] => cmpP a fin
  | a :: x, b :: y => if cmpP a b ≠ 0 then cmpP a b else cm x y
theorem cm_eq : ∀ x y : List Prt, cmpV (x ++ [fin]) (y ++ [fin]) = cm x y
  | [], [] => by decide
  | [], b :: y => by
    simp only [List.nil_append, List.cons_append, cmpV, cm]
    split
    · rfl
    · rename_i h; exact (Classical.not_not.1 h).symm
  | a :: x, [] => by
    simp only [List.nil_append, List.cons_append, cmpV, cm]
    split
    · rfl
    · rename_i h
      have : cmpV (x ++ [fin]) [] = 0 := by cases x <;> rfl
      rw [this]; exact (Classical.not_not.1 h).symm
  | a :: x, b :: y => by
    simp only [List.cons_append, cmpV, cm, cm_eq x y]
theorem comp_cm (a b : Bytes) : comp a b = cm (pts a) (pts b) := cm_eq _ _
theorem cm_neg : ∀ x y : List Prt, cm y x = - cm x y
  | [], [] => rfl
  | [], b :: y => by simp only [cm]; exact cmpP_neg _ _
  | a :: x, [] => by simp only [cm]; exact cmpP_neg _ _
  | a :: x, b :: y => by
    simp only [cm]
    rw [cmpP_neg a b, cm_neg x y]
    by_cases h : cmpP a b = 0
    · simp [h]
    · have : ¬ (- cmpP a b = 0) := by omega
      simp [h, this]
theorem cm_self (x : List Prt) : cm x x = 0 := by have := cm_neg x x; omega
theorem cm_three : ∀ x y : List Prt, cm x y = -1 ∨ cm x y = 0 ∨ cm x y = 1
  | [], [] => .inr (.inl rfl)
  | [], b :: y => cmpP_cases _ _
  | a :: x, [] => cmpP_cases _ _
  | a :: x, b :: y => by
    simp only [cm]
    split
    · exact cmpP_cases _ _
    · exact cm_three x y
def Fine (x : List Prt) : Prop := ∀ p ∈ x, p.1 ≠ 2
theorem fin_ne {p : Prt} (h : p.1 ≠ 2) : cmpP p fin ≠ 0 ∧ cmpP fin p ≠ 0 :=
  ⟨fun e => h (by rw [cmpP_zero e]; rfl), fun e => h (by rw [← cmpP_zero e]; rfl)⟩
theorem cm_zero : ∀ x y : List Prt, Fine x → Fine y → cm x y = 0 → x = y
  | [], [], _, _, _ => rfl
  | [], b :: y, _, hy, h => absurd h (fin_ne (hy b (by simp))).2
  | a :: x, [], hx, _, h => absurd h (fin_ne (hx a (by simp))).1
  | a :: x, b :: y, hx, hy, h => by
    simp only [cm] at h
    split at h
    · rename_i h2; exact absurd h h2
    · rename_i h2
      have e := cmpP_zero (show cmpP a b = 0 by simpa using h2)
      rw [e, cm_zero x y (fun p hp => hx p (by simp [hp])) (fun p hp => hy p (by simp [hp])) h]
theorem pneg {a b : Prt} (h : cmpP a b ≤ 0) (h2 : cmpP a b ≠ 0) : cmpP a b = -1 := by rcases cmpP_cases a b with e | e | e <;> omega
theorem cm_lt_trans : ∀ x y z : List Prt, Fine x → Fine y → Fine z → cm x y = -1 → cm y z = -1 → cm x z = -1
  | [], [], _, _, _, _, h, _ => by simp [cm] at h
  | [], b :: y, [], _, _, _, h1, h2 => by
    simp only [cm] at h1 h2
    have := cmpP_neg b fin; omega
  | [], b :: y, c :: z, _, hy, _, h1, h2 => by
    simp only [cm] at h1 h2 ⊢
    split at h2
    · exact cmpP_lt_trans h1 h2
    · rename_i h3
      have e := cmpP_zero (show cmpP b c = 0 by simpa using h3)
      rw [← e]; exact h1
  | a :: x, [], [], _, _, _, h1, h2 => by simp [cm] at h2
  | a :: x, [], c :: z, _, _, _, h1, h2 => by
    simp only [cm] at h1 h2 ⊢
    have e := cmpP_lt_trans h1 h2
    rw [e]; rfl
  | a :: x, b :: y, [], _, _, _, h1, h2 => by
    simp only [cm] at h1 h2 ⊢
    split at h1
    · exact cmpP_lt_trans h1 h2
    · rename_i h3
      have e := cmpP_zero (show cmpP a b = 0 by simpa using h3)
      rw [e]; exact h2
  | a :: x, b :: y, c :: z, hx, hy, hz, h1, h2 => by
    simp only [cm] at h1 h2 ⊢
    split at h1
    · split at h2
      · have e := cmpP_lt_trans h1 h2
        rw [e]; rfl
      · rename_i h3
        have e := cmpP_zero (show cmpP b c = 0 by simpa using h3)
        rw [← e, h1]; rfl
    · rename_i h3
      have e := cmpP_zero (show cmpP a b = 0 by simpa using h3)
      rw [e]
      split at h2
      · rename_i h4
        rw [if_pos h4]; exact h2
      · rename_i h4
        rw [if_neg h4]
        exact cm_lt_trans x y z (fun p hp => hx p (by simp [hp])) (fun p hp => hy p (by simp [hp])) (fun p hp => hz p (by simp [hp])) h1 h2
theorem cm_ahead (p x y : List Prt) : cm (p ++ x) (p ++ y) = cm x y := by
  induction p with
  | nil => rfl
  | cons a p ih => simp only [List.cons_append, cm, cmpP_self, ne_eq, not_true_eq_false, if_false, ih]

theorem comp_neg (a b : Bytes) : comp b a = - comp a b := by rw [comp_cm, comp_cm]; exact cm_neg _ _
theorem comp_self (a : Bytes) : comp a a = 0 := by rw [comp_cm]; exact cm_self _
theorem comp_three (a b : Bytes) : comp a b = -1 ∨ comp a b = 0 ∨ comp a b = 1 := by rw [comp_cm]; exact cm_three _ _
theorem comp_zero {a b : Bytes} (h : comp a b = 0) : pts a = pts b := by rw [comp_cm] at h; exact cm_zero _ _ (pts_kinds a) (pts_kinds b) h
theorem comp_of_pts {a a' : Bytes} (h : pts a = pts a') (b : Bytes) : comp a b = comp a' b := by rw [comp_cm, comp_cm, h]
theorem comp_of_pts' {b b' : Bytes} (h : pts b = pts b') (a : Bytes) : comp a b = comp a b' := by rw [comp_cm, comp_cm, h]
theorem comp_lt_trans {a b c : Bytes} (h1 : comp a b = -1) (h2 : comp b c = -1) : comp a c = -1 := by
  rw [comp_cm] at *; exact cm_lt_trans _ _ _ (pts_kinds a) (pts_kinds b) (pts_kinds c) h1 h2
/-- of three -/
theorem comp_le_trans {a b c : Bytes} (h1 : comp a b ≤ 0) (h2 : comp b c ≤ 0) : comp a c ≤ 0 ∧ (comp a c = 0 ↔ comp a b = 0 ∧ comp b c = 0) := by
  rcases comp_three a b with e1 | e1 | e1 <;> rcases comp_three b c with e2 | e2 | e2 <;> first | omega | skip
  · have := comp_lt_trans e1 e2; omega
  · rw [← comp_of_pts' (comp_zero e2) a]; omega
  · rw [comp_of_pts (comp_zero e1) c]; omega
  · rw [comp_of_pts (comp_zero e1) c]; omega
theorem comp_ge_trans {a b c : Bytes} (h1 : 0 ≤ comp a b) (h2 : 0 ≤ comp b c) : 0 ≤ comp a c ∧ (comp a c = 0 ↔ comp a b = 0 ∧ comp b c = 0) := by
  have n1 := comp_neg a b
  have n2 := comp_neg b c
  have n3 := comp_neg a c
  have := comp_le_trans (a := c) (b := b) (c := a) (by omega) (by omega)
  omega
/- a byte that is no part, ahead, between, behind -/
theorem pts_nothing (x y : Bytes) {d : UInt8} (h : kk d = 0) : pts (x ++ d :: y) = pts x ++ pts y := by
  rw [pts_at x y d (by omega), pts_zero _ h]
theorem pts_sign (x y : Bytes) {d : UInt8} (h : kk d ≠ 0) (h4 : kk d < 4) : pts (x ++ d :: y) = pts x ++ (kk d, []) :: pts y := by
  rw [pts_at x y d h4, pts_one _ h h4]
end Go.Proofs.YtinidiiachedbaaDoor
