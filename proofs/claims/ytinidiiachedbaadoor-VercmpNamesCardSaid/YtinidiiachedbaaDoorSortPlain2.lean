/- A stable sort, in plain terms: two cells exchanged, two parts turned about, rows cut in chunks. Nothing of the program here. -/
import Derived.Test.YtinidiiachedbaaDoorSortPlain
namespace Go.Proofs.YtinidiiachedbaaDoor
open Go.RowKit

section
variable {α : Type} {lt : α → α → Bool}
/-- the cells i and k exchanged -/
def swp (d : List α) (i k : Nat) (hi : i < d.length) (hk : k < d.length) : List α := (d.set i d[k]).set k d[i]
theorem set_at (A B : List α) (x y : α) : (A ++ x :: B).set A.length y = A ++ y :: B := by
  rw [List.set_append_right _ _ (Nat.le_refl _), Nat.sub_self]; rfl
theorem get_at (A B : List α) (x : α) (h : A.length < (A ++ x :: B).length) : (A ++ x :: B)[A.length] = x := by
  rw [List.getElem_append_right (Nat.le_refl _)]; simp
theorem get_at' {A B : List α} {x : α} {i : Nat} (e : i = A.length) (h : i < (A ++ x :: B).length) : (A ++ x :: B)[i] = x := by
  subst e; exact get_at A B x h
theorem set_at' {A B : List α} {x y : α} {i : Nat} (e : i = A.length) : (A ++ x :: B).set i y = A ++ y :: B := by
  subst e; exact set_at A B x y
/-- two cells exchanged: x at i, y at k behind it -/
theorem two_sets {A M B : List α} {x y : α} {i k : Nat} (ei : i = A.length) (ek : k = A.length + 1 + M.length) :
    ((A ++ x :: (M ++ y :: B)).set i y).set k x = A ++ y :: (M ++ x :: B) := by
  rw [set_at' ei]
  have e : A ++ y :: (M ++ y :: B) = (A ++ y :: M) ++ y :: B := by simp
  rw [e, set_at' (by simp; omega)]; simp
theorem two_sets' {A M B : List α} {x y : α} {i k : Nat} (ei : i = A.length) (ek : k = A.length + 1 + M.length) :
    ((A ++ x :: (M ++ y :: B)).set k x).set i y = A ++ y :: (M ++ x :: B) := by
  have e : A ++ x :: (M ++ y :: B) = (A ++ x :: M) ++ y :: B := by simp
  rw [e, set_at' (by simp; omega)]
  have e : (A ++ x :: M) ++ x :: B = A ++ x :: (M ++ x :: B) := by simp
  rw [e, set_at' ei]
theorem one_at {A B : List α} {x : α} {i : Nat} (e : i = A.length) : (A ++ x :: B)[i]? = some x := by
  rw [e, List.getElem?_append_right (Nat.le_refl _)]; simp
theorem two_at {A M B : List α} {x y : α} {k : Nat} (ek : k = A.length + 1 + M.length) : (A ++ x :: (M ++ y :: B))[k]? = some y := by
  rw [ek, List.getElem?_append_right (by omega), show A.length + 1 + M.length - A.length = M.length + 1 by omega, List.getElem?_cons_succ, List.getElem?_append_right (Nat.le_refl _)]; simp

/-- rows cut in chunks of b, the last one perhaps shorter -/
inductive Ch (b : Nat) : List (List α) → Prop where
  | none : Ch b []
  | last (c : List α) : 0 < c.length → c.length ≤ b → Ch b [c]
  | more (c : List α) (R : List (List α)) : c.length = b → Ch b R → Ch b (c :: R)
theorem ch_two {b : Nat} (hb : 0 < b) {R : List (List α)} (h : Ch b R) (h2 : 2 * b ≤ R.flatten.length) : ∃ c1 c2 R', R = c1 :: c2 :: R' ∧ c1.length = b ∧ c2.length = b ∧ Ch b R' := by
  cases h with
  | none => simp at h2; omega
  | last c _ hc => simp at h2; omega
  | more c R hc hR =>
    cases hR with
    | none => simp at h2; omega
    | last c2 h0 hc2 =>
      simp at h2
      exact ⟨c, c2, [], rfl, hc, by omega, .none⟩
    | more c2 R hc2 hR => exact ⟨c, c2, R, rfl, hc, hc2, hR⟩
theorem ch_rest {b : Nat} (hb : 0 < b) {R : List (List α)} (h : Ch b R) (h2 : R.flatten.length < 2 * b) :
    (R = [] ∨ (∃ c, R = [c] ∧ 0 < c.length ∧ c.length ≤ b)) ∨ (∃ c1 c2, R = [c1, c2] ∧ c1.length = b ∧ 0 < c2.length ∧ c2.length < b) := by
  cases h with
  | none => exact .inl (.inl rfl)
  | last c h0 hc => exact .inl (.inr ⟨c, rfl, h0, hc⟩)
  | more c R hc hR =>
    cases hR with
    | none => exact .inl (.inr ⟨c, rfl, by omega, by omega⟩)
    | last c2 h0 hc2 =>
      simp at h2
      exact .inr ⟨c, c2, rfl, hc, h0, by omega⟩
    | more c2 R hc2 hR => simp at h2; omega
theorem ch_snoc {b : Nat} : ∀ {R : List (List α)} {c : List α}, (∀ x ∈ R, x.length = b) → 0 < c.length → c.length ≤ b → Ch b (R ++ [c])
  | [], c, _, h0, hc => .last c h0 hc
  | x :: R, c, h, h0, hc => .more x _ (h x (by simp)) (ch_snoc (fun y hy => h y (by simp [hy])) h0 hc)
theorem ch_full {b : Nat} : ∀ {R : List (List α)}, (∀ x ∈ R, x.length = b) → Ch b R
  | [], _ => .none
  | x :: R, h => .more x _ (h x (by simp)) (ch_full (fun y hy => h y (by simp [hy])))
theorem ch_small {b : Nat} {R : List (List α)} (h : Ch b R) (h2 : R.flatten.length ≤ b) (hb : 0 < b) : ∃ c, R.flatten = c ∧ (R.map (rs lt)).flatten = rs lt c := by
  rcases ch_rest hb h (by omega) with (rfl | ⟨c, rfl, _, _⟩) | ⟨c1, c2, rfl, h3, h4, _⟩
  · exact ⟨[], rfl, rfl⟩
  · exact ⟨c, by simp, by simp⟩
  · simp at h2; omega
theorem flat_rs_len : ∀ R : List (List α), (R.map (rs lt)).flatten.length = R.flatten.length
  | [] => rfl
  | c :: R => by simp [rs_len, flat_rs_len R]
end
end Go.Proofs.YtinidiiachedbaaDoor
