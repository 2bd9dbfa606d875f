/- PkCopyL -/
import Derived.Test.YtcpjignlhlcnpaaDoorPkgNamesRowG37
import Derived.Test.YtcpjignlhlcnpaaDoorPkgNamesRowG36
import Derived.Test.YtcpjignlhlcnpaaDoorPkgNamesRowG23
set_option linter.unusedSimpArgs false
set_option linter.unusedVariables false
/- A package's copy under way: rows that are written, and the box that they hang on. -/


namespace Go.Proofs.YtcpjignlhlcnpaaDoor
open Go.RowKit Go.Shelf
set_option linter.unusedVariables false

/-- a list written over another one, from a place on -/
def over : List Value → Nat → List Value → List Value
  | xs, _, [] => xs
  | xs, k, v :: l => over (xs.set k v) (k + 1) l
theorem over_mid : ∀ (l P Q R : List Value), Q.length = l.length → over (P ++ (Q ++ R)) P.length l = P ++ (l ++ R)
  | [], P, Q, R, h => by
    obtain rfl : Q = [] := List.eq_nil_of_length_eq_zero h
    rfl
  | v :: l, P, [], R, h => by simp at h
  | v :: l, P, q :: Q, R, h => by
    have e1 : (P ++ (q :: Q ++ R)).set P.length v = (P ++ [v]) ++ (Q ++ R) := by simp [List.set_append]
    have e2 := over_mid l (P ++ [v]) Q R (by simpa using h)
    rw [over, e1, show P.length + 1 = (P ++ [v]).length by simp, e2]
    simp
theorem over_set {α : Type} {enc : α → List Value} {size : Nat} (he : ∀ x, (enc x).length = size) (m : List α) (j : Nat) (hj : j < m.length) (x : α) : over (m.flatMap enc) (j * size) (enc x) = (m.set j x).flatMap enc := by
  have h1 : m = m.take j ++ m[j] :: m.drop (j + 1) := by rw [List.getElem_cons_drop]; exact (List.take_append_drop j m).symm
  have h2 : m.set j x = m.take j ++ x :: m.drop (j + 1) := by rw [List.set_eq_take_append_cons_drop, if_pos hj]
  have hl : ((m.take j).flatMap enc).length = j * size := by
    have : ∀ l : List α, (l.flatMap enc).length = l.length * size := fun l => by
      induction l with
      | nil => simp
      | cons a l ih => simp [ih, he, Nat.add_mul, Nat.add_comm]
    rw [this, List.length_take, Nat.min_eq_left (Nat.le_of_lt hj)]
  have h3 : m.flatMap enc = (m.take j).flatMap enc ++ (enc m[j] ++ (m.drop (j + 1)).flatMap enc) := by
    have h4 := congrArg (fun l => List.flatMap enc l) h1
    simp only [List.flatMap_append, List.flatMap_cons] at h4
    exact h4
  rw [h3, h2, ← hl, over_mid (enc x) _ _ _ (by rw [he, he])]
  simp
section
variable {base : Nat} {e : TypeId} {size g n cap : Nat} {W : World}
theorem ownsRow_setCell {xs : List Value} (h : W.ownsRow base e size (.slice (some ⟨g, 0, none⟩) n cap) n xs) (k : Nat) (v : Value) : (W.setCell ⟨g, k, none⟩ v).ownsRow base e size (.slice (some ⟨g, 0, none⟩) n cap) n (xs.set k v) := by
  refine ⟨by rw [List.length_set]; exact h.1, .inr ?_⟩
  rcases h.2 with ⟨h2, _⟩ | ⟨g', cap', cur, hv, hg, hh, h1, h2, h3, h4⟩
  · simp at h2
  · simp only [Value.slice.injEq, Option.some.injEq, Addr.mk.injEq] at hv
    obtain ⟨⟨rfl, _⟩, _, rfl⟩ := hv
    refine ⟨g, cap, cur.setIfInBounds k v, rfl, hg, ?_, h1, h2, by simpa using h3, ?_⟩
    · simp [World.setCell, Array.getElem?_modify, hh]
    · rw [Array.toList_setIfInBounds, List.take_set, h4]
theorem ownsRow_setL : ∀ (l : List Value) (k : Nat) (W : World) (xs : List Value), W.ownsRow base e size (.slice (some ⟨g, 0, none⟩) n cap) n xs → (setL g k l W).ownsRow base e size (.slice (some ⟨g, 0, none⟩) n cap) n (over xs k l)
  | [], k, W, xs, h => h
  | v :: l, k, W, xs, h => ownsRow_setL l (k + 1) _ _ (ownsRow_setCell h k v)
/-- an element is written -/
theorem own_set {α : Type} {enc : α → List Value} {m : List α} (h : Own enc size base e (.slice (some ⟨g, 0, none⟩) n cap) m W) (he : ∀ x, (enc x).length = size) {j : Nat} (hj : j < m.length) (x : α) : Own enc size base e (.slice (some ⟨g, 0, none⟩) n cap) (m.set j x) (setL g (j * size) (enc x) W) := by
  have hn : n = m.length := by
    rcases h.2 with ⟨h2, _⟩ | ⟨g', cap', cur, hv, _⟩
    · simp at h2
    · simp only [Value.slice.injEq] at hv; exact hv.2.1
  subst hn
  unfold Own at *
  rw [List.length_set, ← over_set he m j hj x]
  exact ownsRow_setL _ _ _ _ h
theorem own_some {α : Type} {enc : α → List Value} {m : List α} {A : Option Addr} (h : Own enc size base e (.slice A n cap) m W) (hm : 0 < m.length) : ∃ g, A = some ⟨g, 0, none⟩ ∧ base ≤ g ∧ g < W.heap.size ∧ n = m.length ∧ (∀ i, W.frozen? ⟨g, i, none⟩ = false) := by
  rcases h.2 with ⟨_, h2⟩ | ⟨g', cap', cur, hv, hg, hh, _⟩
  · omega
  · simp only [Value.slice.injEq] at hv
    exact ⟨g', hv.1, hg, (Array.getElem?_eq_some_iff.1 hh).1, hv.2.1, fun i => by simp [World.frozen?, hh]⟩
end
theorem setL_below {B R : Nat} (hB : B ≤ R) : ∀ (l : List Value) (k : Nat) (W : World), Below B W (setL R k l W)
  | [], _, W => Below.refl _ _
  | v :: l, k, W => ((Below.refl _ _).setCell (p := ⟨R, k, none⟩) hB v).trans (setL_below hB l (k + 1) _)
theorem setL_heap (R : Nat) (l : List Value) (k : Nat) (W : World) : (setL R k l W).heap.size = W.heap.size := by
  induction l generalizing k W with
  | nil => rfl
  | cons v l ih => rw [setL, ih]; simp [World.setCell]
theorem own7_at {base : Nat} {e : TypeId} {g n cap : Nat} {W : World} {m : List RV} (h : Own encR 7 base e (.slice (some ⟨g, 0, none⟩) n cap) m W) {k : Nat} (hk : k < m.length) : W.cell? ⟨g, k * 7, none⟩ = some (.int .u8 m[k].kind) ∧ W.cell? ⟨g, k * 7 + 1, none⟩ = some (.string (bs m[k].dep.name)) ∧ W.cell? ⟨g, k * 7 + 2, none⟩ = some (.int .u8 m[k].dep.op) ∧ W.cell? ⟨g, k * 7 + 3, none⟩ = some (.int .i64 m[k].dep.evr.epoch) ∧ W.cell? ⟨g, k * 7 + 4, none⟩ = some (.string (bs m[k].dep.evr.ver)) ∧ W.cell? ⟨g, k * 7 + 5, none⟩ = some (.string (bs m[k].dep.evr.rel)) ∧ W.cell? ⟨g, k * 7 + 6, none⟩ = some (.slice m[k].addr m[k].args.length m[k].cap) := by
  obtain ⟨A', c', e', hr⟩ := h.rd encR_len
  simp only [Value.slice.injEq] at e'
  obtain ⟨b, o, e2, _, hc⟩ := hr.cells hk
  rw [← e'.1] at e2
  cases e2
  simp only [Nat.zero_add] at hc
  exact ⟨hc 0 _ rfl, hc 1 _ rfl, hc 2 _ rfl, hc 3 _ rfl, hc 4 _ rfl, hc 5 _ rfl, hc 6 _ rfl⟩
theorem own_frozen {α : Type} {enc : α → List Value} {size base : Nat} {e : TypeId} {g n cap : Nat} {W : World} {m : List α} (h : Own enc size base e (.slice (some ⟨g, 0, none⟩) n cap) m W) (i : Nat) : W.frozen? ⟨g, i, none⟩ = false := by
  rcases h.2 with ⟨h2, _⟩ | ⟨g', cap', cur, hv, hg, hh, _⟩
  · cases h2
  · simp only [Value.slice.injEq, Option.some.injEq, Addr.mk.injEq] at hv
    obtain ⟨⟨rfl, _⟩, _⟩ := hv
    simp [World.frozen?, hh]
section
variable {w0 : World} {base : Nat} {A : Option Addr} {n cap : Nat} {orig m : List RV} {j : Nat} {W : World}
end
theorem Box15.butR {cb R : Nat} {q : Pk} {W W' : World} (h : Box15 cb q W) (hb : ButR R W W') (hr : cb ≠ R) : Box15 cb q W' := by
  obtain ⟨⟨hl, c0, c1, c2, c3, c4, c5, c6, c7, c8, c9, c10, c11, c12, c13, c14⟩, hf, hlt⟩ := h
  have k : ∀ i, W'.cell? ⟨cb, i, none⟩ = W.cell? ⟨cb, i, none⟩ := fun i => hb.cellK (p := ⟨cb, i, none⟩) hlt hr
  exact ⟨⟨Nat.lt_of_lt_of_le hl hb.size, (k 0).trans c0, (k 1).trans c1, (k 2).trans c2, (k 3).trans c3, (k 4).trans c4, (k 5).trans c5, (k 6).trans c6, (k 7).trans c7, (k 8).trans c8, (k 9).trans c9, (k 10).trans c10, (k 11).trans c11, (k 12).trans c12, (k 13).trans c13, (k 14).trans c14⟩, fun i hi => (hb.frozenK (p := ⟨cb, i, none⟩) hlt hr).trans (hf i hi), Nat.lt_of_lt_of_le hlt hb.size⟩
end Go.Proofs.YtcpjignlhlcnpaaDoor
