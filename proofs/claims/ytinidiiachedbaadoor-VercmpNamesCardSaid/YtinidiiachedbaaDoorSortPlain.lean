/- A stable sort, in plain terms: rows merged; the row into which texts are put one behind the other. Nothing of the program here. -/
import Derived.Test.YtinidiiachedbaaDoorBase
namespace Go.Proofs.YtinidiiachedbaaDoor
open Go.RowKit

section
variable {α : Type}
/-- a total order in which texts may be the same -/
structure Ordr (lt : α → α → Bool) : Prop where
  asymm : ∀ a b, lt a b = true → lt b a = false
  ntrans : ∀ a b c, lt a b = false → lt b c = false → lt a c = false
variable {lt : α → α → Bool}
theorem Ordr.irrefl (O : Ordr lt) (a : α) : lt a a = false := by
  cases h : lt a a with
  | false => rfl
  | true => have := O.asymm a a h; rw [h] at this; exact this
theorem Ordr.lt_le (O : Ordr lt) {a b c : α} (h1 : lt a b = true) (h2 : lt c b = false) : lt a c = true := by
  cases h : lt a c with
  | true => rfl
  | false => have := O.ntrans a c b h h2; rw [h1] at this; exact this.symm
theorem Ordr.le_lt (O : Ordr lt) {a b c : α} (h1 : lt b a = false) (h2 : lt b c = true) : lt a c = true := by
  cases h : lt a c with
  | true => rfl
  | false => have := O.ntrans b a c h1 h; rw [h2] at this; exact this.symm
/-- may a stand ahead of b? -/
def leB (lt : α → α → Bool) (a b : α) : Bool := !lt b a
def mg (lt : α → α → Bool) (u v : List α) : List α := u.merge v (leB lt)
theorem mg_nil (v : List α) : mg lt [] v = v := by simp [mg]
theorem mg_nil' (u : List α) : mg lt u [] = u := by simp [mg]
theorem mg_cons (x y : α) (u v : List α) : mg lt (x :: u) (y :: v) = if lt y x then y :: mg lt (x :: u) v else x :: mg lt u (y :: v) := by
  unfold mg
  rw [List.cons_merge_cons]
  by_cases h : lt y x = true
  · have hl : ¬ leB lt x y = true := by unfold leB; rw [h]; decide
    rw [if_neg hl, if_pos h]
  · have hl : leB lt x y = true := by
      unfold leB
      cases h2 : lt y x
      · rfl
      · exact absurd h2 h
    rw [if_pos hl, if_neg h]
theorem mg_len (u v : List α) : (mg lt u v).length = u.length + v.length := by
  unfold mg; simp
theorem mg_perm (u v : List α) : (mg lt u v).Perm (u ++ v) := List.merge_perm_append _
theorem mg_assoc (O : Ordr lt) (n : Nat) : ∀ a b c : List α, a.length + b.length + c.length ≤ n → mg lt (mg lt a b) c = mg lt a (mg lt b c) := by
  induction n with
  | zero =>
    intro a b c h
    obtain rfl := List.eq_nil_of_length_eq_zero (show a.length = 0 by omega)
    rw [mg_nil, mg_nil]
  | succ n ih =>
    intro a b c h
    match a, b, c with
    | [], b, c => rw [mg_nil, mg_nil]
    | a, [], c => rw [mg_nil, mg_nil']
    | a, b, [] => rw [mg_nil', mg_nil']
    | x :: a, y :: b, z :: c =>
      simp only [List.length_cons] at h
      rw [mg_cons x y, mg_cons y z]
      cases hyx : lt y x
      · cases hzy : lt z y
        · simp only [Bool.false_eq_true, if_false]
          rw [mg_cons, mg_cons, O.ntrans z y x hzy hyx, hyx]
          simp only [Bool.false_eq_true, if_false]
          rw [ih a (y :: b) (z :: c) (by simp only [List.length_cons]; omega), mg_cons y z, hzy]
          simp only [Bool.false_eq_true, if_false]
        · simp only [Bool.false_eq_true, if_false, if_true]
          rw [mg_cons, mg_cons]
          cases hzx : lt z x
          · simp only [Bool.false_eq_true, if_false]
            rw [ih a (y :: b) (z :: c) (by simp only [List.length_cons]; omega), mg_cons y z, hzy]
            simp only [if_true]
          · simp only [if_true]
            rw [← ih (x :: a) (y :: b) c (by simp only [List.length_cons]; omega), mg_cons x y, hyx]
            simp only [Bool.false_eq_true, if_false]
      · cases hzy : lt z y
        · simp only [Bool.false_eq_true, if_false, if_true]
          rw [mg_cons, mg_cons, hzy, hyx]
          simp only [Bool.false_eq_true, if_false, if_true]
          rw [ih (x :: a) b (z :: c) (by simp only [List.length_cons]; omega)]
        · have hzx : lt z x = true := O.lt_le hzy (O.asymm _ _ hyx)
          simp only [if_true]
          rw [mg_cons, mg_cons, hzy, hzx]
          simp only [if_true]
          rw [← ih (x :: a) (y :: b) c (by simp only [List.length_cons]; omega), mg_cons x y, hyx]
          simp only [if_true]
/-- what stands ahead of what is merged apart -/
theorem mg_split (n : Nat) : ∀ u1 v1 u2 v2 : List α, u1.length + v1.length ≤ n → (∀ x ∈ u1, ∀ y ∈ v2, lt y x = false) → (∀ x ∈ u2, ∀ y ∈ v1, lt y x = true) →
    mg lt (u1 ++ u2) (v1 ++ v2) = mg lt u1 v1 ++ mg lt u2 v2 := by
  induction n with
  | zero =>
    intro u1 v1 u2 v2 h _ _
    obtain rfl := List.eq_nil_of_length_eq_zero (show u1.length = 0 by omega)
    obtain rfl := List.eq_nil_of_length_eq_zero (show v1.length = 0 by omega)
    rw [mg_nil]; rfl
  | succ n ih =>
    intro u1 v1 u2 v2 h h1 h2
    match u1, v1 with
    | [], [] => rw [mg_nil]; rfl
    | [], y :: v1 =>
      rw [mg_nil, List.nil_append]
      cases u2 with
      | nil => rw [mg_nil, mg_nil]
      | cons x u2 =>
        rw [List.cons_append, mg_cons, h2 x (by simp) y (by simp), if_pos rfl]
        have := ih [] v1 (x :: u2) v2 (by simp only [List.length_cons, List.length_nil] at h ⊢; omega) (by simp) (fun a ha b hb => h2 a ha b (by simp [hb]))
        rw [List.nil_append, mg_nil] at this
        rw [this]; rfl
    | x :: u1, [] =>
      rw [mg_nil', List.nil_append]
      cases v2 with
      | nil => rw [mg_nil', mg_nil']
      | cons y v2 =>
        rw [List.cons_append, mg_cons, h1 x (by simp) y (by simp)]
        simp only [Bool.false_eq_true, if_false]
        have := ih u1 [] u2 (y :: v2) (by simp only [List.length_cons, List.length_nil] at h ⊢; omega) (fun a ha b hb => h1 a (by simp [ha]) b hb) (by simp)
        rw [List.nil_append, mg_nil'] at this
        rw [this]; rfl
    | x :: u1, y :: v1 =>
      rw [List.cons_append, List.cons_append, mg_cons, mg_cons]
      simp only [List.length_cons] at h
      cases hl : lt y x
      · simp only [Bool.false_eq_true, if_false]
        have := ih u1 (y :: v1) u2 v2 (by simp only [List.length_cons]; omega) (fun a ha b hb => h1 a (by simp [ha]) b hb) h2
        rw [List.cons_append] at this
        rw [this]; rfl
      · simp only [if_true]
        have := ih (x :: u1) v1 u2 v2 (by simp only [List.length_cons]; omega) h1 (fun a ha b hb => h2 a ha b (by simp [hb]))
        rw [List.cons_append] at this
        rw [this]; rfl
theorem mg_one {x : α} {u1 u2 : List α} (h1 : ∀ e ∈ u1, lt x e = false) (h2 : ∀ e ∈ u2, lt x e = true) : mg lt (u1 ++ u2) [x] = u1 ++ x :: u2 := by
  have a := mg_split (lt := lt) _ u1 [] u2 [x] (Nat.le_refl _) (by simpa using h1) (by simp)
  have b := mg_split (lt := lt) _ [] [x] u2 [] (Nat.le_refl _) (by simp) (by simpa using h2)
  rw [List.nil_append, mg_nil'] at a
  rw [List.nil_append, List.append_nil, mg_nil, mg_nil'] at b
  rw [a, b]; rfl
theorem mg_one' {x : α} {v1 v2 : List α} (h1 : ∀ e ∈ v1, lt e x = true) (h2 : ∀ e ∈ v2, lt e x = false) : mg lt [x] (v1 ++ v2) = v1 ++ x :: v2 := by
  have a := mg_split (lt := lt) _ [] v1 [x] v2 (Nat.le_refl _) (by simp) (by simpa using h1)
  have b := mg_split (lt := lt) _ [x] [] [] v2 (Nat.le_refl _) (by simpa using h2) (by simp)
  rw [List.nil_append, mg_nil] at a
  rw [List.nil_append, List.append_nil, mg_nil', mg_nil] at b
  rw [a, b]; rfl

/-- THE ROW: texts put in one behind the other, each behind all that are not greater -/
def rs (lt : α → α → Bool) (l : List α) : List α := l.foldl (fun s x => mg lt s [x]) []
theorem rs_nil : rs lt ([] : List α) = [] := rfl
theorem rs_snoc (l : List α) (x : α) : rs lt (l ++ [x]) = mg lt (rs lt l) [x] := by simp [rs, List.foldl_append]
theorem snoc_ind {P : List α → Prop} (h0 : P []) (h1 : ∀ l x, P l → P (l ++ [x])) : ∀ l, P l := by
  intro l
  have : ∀ r : List α, P r.reverse := by
    intro r
    induction r with
    | nil => exact h0
    | cons x r ih => rw [List.reverse_cons]; exact h1 _ _ ih
  have h := this l.reverse
  rwa [List.reverse_reverse] at h
theorem rs_append (O : Ordr lt) (a : List α) : ∀ b, rs lt (a ++ b) = mg lt (rs lt a) (rs lt b) := by
  refine snoc_ind ?_ ?_
  · rw [List.append_nil, rs_nil, mg_nil']
  · intro b x ih
    rw [← List.append_assoc, rs_snoc, rs_snoc, ih, mg_assoc O _ _ _ _ (Nat.le_refl _)]
theorem rs_perm (l : List α) : (rs lt l).Perm l := by
  refine snoc_ind (P := fun l => (rs lt l).Perm l) (by rw [rs_nil]) ?_ l
  intro l x ih
  rw [rs_snoc]
  exact (mg_perm _ _).trans (ih.append_right [x])
theorem rs_len (l : List α) : (rs lt l).length = l.length := (rs_perm l).length_eq
/-- none ahead of a lesser one -/
def Srt (lt : α → α → Bool) (l : List α) : Prop := l.Pairwise fun a b => lt b a = false
theorem mg_srt (O : Ordr lt) (n : Nat) : ∀ u v : List α, u.length + v.length ≤ n → Srt lt u → Srt lt v → Srt lt (mg lt u v) := by
  induction n with
  | zero =>
    intro u v h hu hv
    obtain rfl := List.eq_nil_of_length_eq_zero (show u.length = 0 by omega)
    rw [mg_nil]; exact hv
  | succ n ih =>
    intro u v h hu hv
    match u, v with
    | [], v => rw [mg_nil]; exact hv
    | u, [] => rw [mg_nil']; exact hu
    | x :: u, y :: v =>
      simp only [List.length_cons] at h
      unfold Srt at hu hv
      have hu' := List.pairwise_cons.1 hu
      have hv' := List.pairwise_cons.1 hv
      rw [mg_cons]
      cases hl : lt y x
      · simp only [Bool.false_eq_true, if_false]
        refine List.pairwise_cons.2 ⟨fun e he => ?_, ih u (y :: v) (by simp only [List.length_cons]; omega) hu'.2 hv⟩
        rcases List.mem_append.1 ((mg_perm _ _).mem_iff.1 he) with he | he
        · exact hu'.1 e he
        · rcases List.mem_cons.1 he with rfl | he
          · exact hl
          · exact O.ntrans e y x (hv'.1 e he) hl
      · simp only [if_true]
        refine List.pairwise_cons.2 ⟨fun e he => ?_, ih (x :: u) v (by simp only [List.length_cons]; omega) hu hv'.2⟩
        rcases List.mem_append.1 ((mg_perm _ _).mem_iff.1 he) with he | he
        · rcases List.mem_cons.1 he with rfl | he
          · exact O.asymm _ _ hl
          · exact O.ntrans e x y (hu'.1 e he) (O.asymm _ _ hl)
        · exact hv'.1 e he
theorem rs_srt (O : Ordr lt) (l : List α) : Srt lt (rs lt l) := by
  refine snoc_ind (P := fun l => Srt lt (rs lt l)) (by rw [rs_nil]; exact List.Pairwise.nil) ?_ l
  intro l x ih
  rw [rs_snoc]
  exact mg_srt O _ _ _ (Nat.le_refl _) ih (List.pairwise_singleton _ _)
/-- sorted once more they stay -/
theorem rs_of_srt : ∀ l : List α, Srt lt l → rs lt l = l := by
  refine snoc_ind (fun _ => rfl) ?_
  intro l x ih h
  have h' := List.pairwise_append.1 h
  rw [rs_snoc, ih h'.1]
  have := mg_one (lt := lt) (x := x) (u1 := l) (u2 := []) (fun e he => h'.2.2 e he x (by simp)) (by simp)
  rwa [List.append_nil] at this
/-- those that are the same as one of them are in the row that they had -/
theorem mg1_filter (O : Ordr lt) (p : α → Bool) (hp : ∀ a b, p a = true → p b = true → lt a b = false) (x : α) : ∀ u : List α, Srt lt u → (mg lt u [x]).filter p = u.filter p ++ [x].filter p
  | [], _ => by rw [mg_nil]; rfl
  | a :: u, h => by
    have h' := List.pairwise_cons.1 h
    rw [mg_cons]
    cases hl : lt x a
    · simp only [Bool.false_eq_true, if_false, List.filter_cons, mg1_filter O p hp x u h'.2]
      cases p a <;> simp
    · simp only [if_true, mg_nil']
      cases hx : p x
      · simp [List.filter_cons, hx]
      · have hno : (a :: u).filter p = [] := by
          rw [List.filter_eq_nil_iff]
          intro e he hpe
          have hle : lt x e = true := by
            rcases List.mem_cons.1 he with rfl | he
            · exact hl
            · exact O.lt_le hl (h'.1 e he)
          rw [hp x e hx hpe] at hle
          cases hle
        rw [List.filter_cons, hx, if_pos rfl, hno]
        simp [hx]
theorem rs_filter (O : Ordr lt) (p : α → Bool) (hp : ∀ a b, p a = true → p b = true → lt a b = false) (l : List α) : (rs lt l).filter p = l.filter p := by
  refine snoc_ind (P := fun l => (rs lt l).filter p = l.filter p) rfl ?_ l
  intro l x ih
  rw [rs_snoc, mg1_filter O p hp x _ (rs_srt O l), ih, List.filter_append]
/-- the document's way: behind the last that is not greater -/
theorem rs_put (O : Ordr lt) (l : List α) (x : α) (k : Nat) (h2 : ∀ e ∈ (rs lt l).drop k, lt x e = true) (h1 : ∀ e ∈ (rs lt l).take k, lt x e = false) :
    rs lt (l ++ [x]) = (rs lt l).take k ++ x :: (rs lt l).drop k := by
  rw [rs_snoc]
  conv => lhs; arg 2; rw [← List.take_append_drop k (rs lt l)]
  exact mg_one h1 h2
end
end Go.Proofs.YtinidiiachedbaaDoor
