/- PkClone, PkCopyL -/
import Derived.Test.YteobmfpbgnmffaaGreatDoorPkgCopiesRowG23
import Derived.Test.YteobmfpbgnmffaaGreatDoorPkgCopiesRowG14
import Derived.Test.YteobmfpbgnmffaaGreatDoorPkgCopiesRowG26
set_option linter.unusedSimpArgs false
set_option linter.unusedVariables false
namespace Go.Proofs.YteobmfpbgnmffaaGreatDoor
section
/- Walks: slices.Clone of dependencies, of texts, of rich dependencies: a row of the call's own, or nil. -/



open Go.RowKit Go.Shelf
set_option linter.unusedVariables false

set_option maxRecDepth 100000 in
set_option maxHeartbeats 4000000 in
theorem pkclone_dep (A : Option Addr) (cap : Nat) (l : List Dp) (w : World) (h : Rd encD 5 w.heap.size A cap l w) (hl : l.length ≤ 1000000) : Calls Tryz.prog 70 #[.slice A l.length cap] w fun e w' => ∃ A' c', e = .returned (.slice A' l.length c') ∧ Own encD 5 w.heap.size 37 (.slice A' l.length c') l w' ∧ Below w.heap.size w w' := by
  have q : ∀ (w : World) (a : Option Addr) (n c n' c' : Nat), (binOp .eql 24 (.slice a n c) (.slice none n' c')).run Tryz.prog w = .ok (.bool a.isNone) w := fun w a n c n' c' => Lib.run_eql_slice_nil w _ _ a n c n' c' (by rfl)
  have H := Lib.hid h
  have HL := Lib.hid hl
  cases A with
  | none =>
    have hlen : l.length = 0 := by
      cases l with
      | nil => rfl
      | cons x r => obtain ⟨b, o, e, _⟩ := h.2.2 0 (by simp); cases e
    obtain rfl := List.eq_nil_of_length_eq_zero hlen
    clear h hl hlen
    go_enter Tryz.func70, Tryz.ntmps70
    go_wp2_with fail
    go_ret
    exact ⟨none, 0, rfl, Own.nil_ _ _ _, Below.refl _ _⟩
  | some ad =>
    obtain ⟨n, hn⟩ : ∃ n, n = l.length := ⟨_, rfl⟩
    have HN := Lib.hid hn
    rw [← hn]
    clear h hl hn
    go_enter Tryz.func70, Tryz.ntmps70
    go_wp2_with (at_builtin; refine wpList_append_rd _ rfl _ _ 24 rfl w.heap.size 37 _ _ 5 _ (by rfl) (by rfl) (by rfl) (by rfl) (by rfl) (by rfl) (by decide) encD_len encD_one _ 0 [] rfl (World.ownsRow_made w #[] 0 (Nat.le_refl _) (Nat.zero_le _) rfl) w.heap.size (some ad) cap l n HN.out rfl (H.out.alloc (Nat.le_refl _) _) (by have := HL.out; omega) (by decide) (by simp) ?_; intro v1 w1 ho1 hg1 hw1)
    go_ret
    have hO : Own encD 5 w.heap.size 37 v1 l w1 := by simpa [Own] using ho1
    obtain ⟨A', c', hv⟩ := hO.shape
    exact ⟨A', c', by rw [HN.out]; exact congrArg Ending.returned hv, by rw [HN.out, ← hv]; exact hO, ((Below.refl _ w).alloc (Nat.le_refl _) _).grown hg1 (by simp) (by intro k hk; cases hk; exact Nat.le_refl _)⟩
set_option maxRecDepth 100000 in
set_option maxHeartbeats 4000000 in
theorem pkclone_str (A : Option Addr) (cap : Nat) (l : List ByteArray) (w : World) (h : Rd encT1 1 w.heap.size A cap l w) (hl : l.length ≤ 1000000) : Calls Tryz.prog 71 #[.slice A l.length cap] w fun e w' => ∃ A' c', e = .returned (.slice A' l.length c') ∧ Own encT1 1 w.heap.size 9 (.slice A' l.length c') l w' ∧ Below w.heap.size w w' := by
  have q : ∀ (w : World) (a : Option Addr) (n c n' c' : Nat), (binOp .eql 26 (.slice a n c) (.slice none n' c')).run Tryz.prog w = .ok (.bool a.isNone) w := fun w a n c n' c' => Lib.run_eql_slice_nil w _ _ a n c n' c' (by rfl)
  have H := Lib.hid h
  have HL := Lib.hid hl
  cases A with
  | none =>
    have hlen : l.length = 0 := by
      cases l with
      | nil => rfl
      | cons x r => obtain ⟨b, o, e, _⟩ := h.2.2 0 (by simp); cases e
    obtain rfl := List.eq_nil_of_length_eq_zero hlen
    clear h hl hlen
    go_enter Tryz.func71, Tryz.ntmps71
    go_wp2_with fail
    go_ret
    exact ⟨none, 0, rfl, Own.nil_ _ _ _, Below.refl _ _⟩
  | some ad =>
    obtain ⟨n, hn⟩ : ∃ n, n = l.length := ⟨_, rfl⟩
    have HN := Lib.hid hn
    rw [← hn]
    clear h hl hn
    go_enter Tryz.func71, Tryz.ntmps71
    go_wp2_with (at_builtin; refine wpList_append_rd _ rfl _ _ 26 rfl w.heap.size 9 _ _ 1 _ (by rfl) (by rfl) (by rfl) (by rfl) (by rfl) (by rfl) (by decide) encT1_len encT1_one _ 0 [] rfl (World.ownsRow_made w #[] 0 (Nat.le_refl _) (Nat.zero_le _) rfl) w.heap.size (some ad) cap l n HN.out rfl (H.out.alloc (Nat.le_refl _) _) (by have := HL.out; omega) (by decide) (by simp) ?_; intro v1 w1 ho1 hg1 hw1)
    go_ret
    have hO : Own encT1 1 w.heap.size 9 v1 l w1 := by simpa [Own] using ho1
    obtain ⟨A', c', hv⟩ := hO.shape
    exact ⟨A', c', by rw [HN.out]; exact congrArg Ending.returned hv, by rw [HN.out, ← hv]; exact hO, ((Below.refl _ w).alloc (Nat.le_refl _) _).grown hg1 (by simp) (by intro k hk; cases hk; exact Nat.le_refl _)⟩
set_option maxRecDepth 100000 in
set_option maxHeartbeats 4000000 in
theorem pkclone_rich (A : Option Addr) (cap : Nat) (l : List RV) (w : World) (h : Rd encR 7 w.heap.size A cap l w) (hl : l.length ≤ 1000000) : Calls Tryz.prog 72 #[.slice A l.length cap] w fun e w' => ∃ A' c', e = .returned (.slice A' l.length c') ∧ Own encR 7 w.heap.size 39 (.slice A' l.length c') l w' ∧ Below w.heap.size w w' := by
  have q : ∀ (w : World) (a : Option Addr) (n c n' c' : Nat), (binOp .eql 25 (.slice a n c) (.slice none n' c')).run Tryz.prog w = .ok (.bool a.isNone) w := fun w a n c n' c' => Lib.run_eql_slice_nil w _ _ a n c n' c' (by rfl)
  have H := Lib.hid h
  have HL := Lib.hid hl
  cases A with
  | none =>
    have hlen : l.length = 0 := by
      cases l with
      | nil => rfl
      | cons x r => obtain ⟨b, o, e, _⟩ := h.2.2 0 (by simp); cases e
    obtain rfl := List.eq_nil_of_length_eq_zero hlen
    clear h hl hlen
    go_enter Tryz.func72, Tryz.ntmps72
    go_wp2_with fail
    go_ret
    exact ⟨none, 0, rfl, Own.nil_ _ _ _, Below.refl _ _⟩
  | some ad =>
    obtain ⟨n, hn⟩ : ∃ n, n = l.length := ⟨_, rfl⟩
    have HN := Lib.hid hn
    rw [← hn]
    clear h hl hn
    go_enter Tryz.func72, Tryz.ntmps72
    go_wp2_with (at_builtin; refine wpList_append_rd _ rfl _ _ 25 rfl w.heap.size 39 _ _ 7 _ (by rfl) (by rfl) (by rfl) (by rfl) (by rfl) (by rfl) (by decide) encR_len encR_one _ 0 [] rfl (World.ownsRow_made w #[] 0 (Nat.le_refl _) (Nat.zero_le _) rfl) w.heap.size (some ad) cap l n HN.out rfl (H.out.alloc (Nat.le_refl _) _) (by have := HL.out; omega) (by decide) (by simp) ?_; intro v1 w1 ho1 hg1 hw1)
    go_ret
    have hO : Own encR 7 w.heap.size 39 v1 l w1 := by simpa [Own] using ho1
    obtain ⟨A', c', hv⟩ := hO.shape
    exact ⟨A', c', by rw [HN.out]; exact congrArg Ending.returned hv, by rw [HN.out, ← hv]; exact hO, ((Below.refl _ w).alloc (Nat.le_refl _) _).grown hg1 (by simp) (by intro k hk; cases hk; exact Nat.le_refl _)⟩
end
section
/- A package's copy under way: rows that are written, and the box that they hang on. -/



open Go.RowKit Go.Shelf
set_option linter.unusedVariables false

/-- a list written over another one, from a place on -/
def over : List Value → Nat → List Value → List Value
  | xs, _, [] => xs
  | xs, k, v :: l => over (xs.set k v) (k + 1) l
theorem over_mid : ∀ (l P Q R : List Value), Q.length = l.length → over (P ++ (Q ++ R)) P.length l = P ++ (l ++ R)
  | [], P, Q, R, h => by
    obtain rfl : Q = [] := List.eq_nil_of_length_eq_zero h
    rfl
  | v :: l, P, [], R, h => by simp at h
  | v :: l, P, q :: Q, R, h => by
    have e1 : (P ++ (q :: Q ++ R)).set P.length v = (P ++ [v]) ++ (Q ++ R) := by simp [List.set_append]
    have e2 := over_mid l (P ++ [v]) Q R (by simpa using h)
    rw [over, e1, show P.length + 1 = (P ++ [v]).length by simp, e2]
    simp
theorem over_set {α : Type} {enc : α → List Value} {size : Nat} (he : ∀ x, (enc x).length = size) (m : List α) (j : Nat) (hj : j < m.length) (x : α) : over (m.flatMap enc) (j * size) (enc x) = (m.set j x).flatMap enc := by
  have h1 : m = m.take j ++ m[j] :: m.drop (j + 1) := by rw [List.getElem_cons_drop]; exact (List.take_append_drop j m).symm
  have h2 : m.set j x = m.take j ++ x :: m.drop (j + 1) := by rw [List.set_eq_take_append_cons_drop, if_pos hj]
  have hl : ((m.take j).flatMap enc).length = j * size := by
    have : ∀ l : List α, (l.flatMap enc).length = l.length * size := fun l => by
      induction l with
      | nil => simp
      | cons a l ih => simp [ih, he, Nat.add_mul, Nat.add_comm]
    rw [this, List.length_take, Nat.min_eq_left (Nat.le_of_lt hj)]
  have h3 : m.flatMap enc = (m.take j).flatMap enc ++ (enc m[j] ++ (m.drop (j + 1)).flatMap enc) := by
    have h4 := congrArg (fun l => List.flatMap enc l) h1
    simp only [List.flatMap_append, List.flatMap_cons] at h4
    exact h4
  rw [h3, h2, ← hl, over_mid (enc x) _ _ _ (by rw [he, he])]
  simp
section
variable {base : Nat} {e : TypeId} {size g n cap : Nat} {W : World}
theorem ownsRow_setCell {xs : List Value} (h : W.ownsRow base e size (.slice (some ⟨g, 0, none⟩) n cap) n xs) (k : Nat) (v : Value) : (W.setCell ⟨g, k, none⟩ v).ownsRow base e size (.slice (some ⟨g, 0, none⟩) n cap) n (xs.set k v) := by
  refine ⟨by rw [List.length_set]; exact h.1, .inr ?_⟩
  rcases h.2 with ⟨h2, _⟩ | ⟨g', cap', cur, hv, hg, hh, h1, h2, h3, h4⟩
  · simp at h2
  · simp only [Value.slice.injEq, Option.some.injEq, Addr.mk.injEq] at hv
    obtain ⟨⟨rfl, _⟩, _, rfl⟩ := hv
    refine ⟨g, cap, cur.setIfInBounds k v, rfl, hg, ?_, h1, h2, by simpa using h3, ?_⟩
    · simp [World.setCell, Array.getElem?_modify, hh]
    · rw [Array.toList_setIfInBounds, List.take_set, h4]
theorem ownsRow_setL : ∀ (l : List Value) (k : Nat) (W : World) (xs : List Value), W.ownsRow base e size (.slice (some ⟨g, 0, none⟩) n cap) n xs → (setL g k l W).ownsRow base e size (.slice (some ⟨g, 0, none⟩) n cap) n (over xs k l)
  | [], k, W, xs, h => h
  | v :: l, k, W, xs, h => ownsRow_setL l (k + 1) _ _ (ownsRow_setCell h k v)
/-- an element is written -/
theorem own_set {α : Type} {enc : α → List Value} {m : List α} (h : Own enc size base e (.slice (some ⟨g, 0, none⟩) n cap) m W) (he : ∀ x, (enc x).length = size) {j : Nat} (hj : j < m.length) (x : α) : Own enc size base e (.slice (some ⟨g, 0, none⟩) n cap) (m.set j x) (setL g (j * size) (enc x) W) := by
  have hn : n = m.length := by
    rcases h.2 with ⟨h2, _⟩ | ⟨g', cap', cur, hv, _⟩
    · simp at h2
    · simp only [Value.slice.injEq] at hv; exact hv.2.1
  subst hn
  unfold Own at *
  rw [List.length_set, ← over_set he m j hj x]
  exact ownsRow_setL _ _ _ _ h
theorem own_some {α : Type} {enc : α → List Value} {m : List α} {A : Option Addr} (h : Own enc size base e (.slice A n cap) m W) (hm : 0 < m.length) : ∃ g, A = some ⟨g, 0, none⟩ ∧ base ≤ g ∧ g < W.heap.size ∧ n = m.length ∧ (∀ i, W.frozen? ⟨g, i, none⟩ = false) := by
  rcases h.2 with ⟨_, h2⟩ | ⟨g', cap', cur, hv, hg, hh, _⟩
  · omega
  · simp only [Value.slice.injEq] at hv
    exact ⟨g', hv.1, hg, (Array.getElem?_eq_some_iff.1 hh).1, hv.2.1, fun i => by simp [World.frozen?, hh]⟩
end
theorem setL_below {B R : Nat} (hB : B ≤ R) : ∀ (l : List Value) (k : Nat) (W : World), Below B W (setL R k l W)
  | [], _, W => Below.refl _ _
  | v :: l, k, W => ((Below.refl _ _).setCell (p := ⟨R, k, none⟩) hB v).trans (setL_below hB l (k + 1) _)
theorem setL_heap (R : Nat) (l : List Value) (k : Nat) (W : World) : (setL R k l W).heap.size = W.heap.size := by
  induction l generalizing k W with
  | nil => rfl
  | cons v l ih => rw [setL, ih]; simp [World.setCell]
theorem own7_at {base : Nat} {e : TypeId} {g n cap : Nat} {W : World} {m : List RV} (h : Own encR 7 base e (.slice (some ⟨g, 0, none⟩) n cap) m W) {k : Nat} (hk : k < m.length) : W.cell? ⟨g, k * 7, none⟩ = some (.int .u8 m[k].kind) ∧ W.cell? ⟨g, k * 7 + 1, none⟩ = some (.string (bs m[k].dep.name)) ∧ W.cell? ⟨g, k * 7 + 2, none⟩ = some (.int .u8 m[k].dep.op) ∧ W.cell? ⟨g, k * 7 + 3, none⟩ = some (.int .i64 m[k].dep.evr.epoch) ∧ W.cell? ⟨g, k * 7 + 4, none⟩ = some (.string (bs m[k].dep.evr.ver)) ∧ W.cell? ⟨g, k * 7 + 5, none⟩ = some (.string (bs m[k].dep.evr.rel)) ∧ W.cell? ⟨g, k * 7 + 6, none⟩ = some (.slice m[k].addr m[k].args.length m[k].cap) := by
  obtain ⟨A', c', e', hr⟩ := h.rd encR_len
  simp only [Value.slice.injEq] at e'
  obtain ⟨b, o, e2, _, hc⟩ := hr.cells hk
  rw [← e'.1] at e2
  cases e2
  simp only [Nat.zero_add] at hc
  exact ⟨hc 0 _ rfl, hc 1 _ rfl, hc 2 _ rfl, hc 3 _ rfl, hc 4 _ rfl, hc 5 _ rfl, hc 6 _ rfl⟩
theorem own_frozen {α : Type} {enc : α → List Value} {size base : Nat} {e : TypeId} {g n cap : Nat} {W : World} {m : List α} (h : Own enc size base e (.slice (some ⟨g, 0, none⟩) n cap) m W) (i : Nat) : W.frozen? ⟨g, i, none⟩ = false := by
  rcases h.2 with ⟨h2, _⟩ | ⟨g', cap', cur, hv, hg, hh, _⟩
  · cases h2
  · simp only [Value.slice.injEq, Option.some.injEq, Addr.mk.injEq] at hv
    obtain ⟨⟨rfl, _⟩, _⟩ := hv
    simp [World.frozen?, hh]
section
variable {w0 : World} {base : Nat} {A : Option Addr} {n cap : Nat} {orig m : List RV} {j : Nat} {W : World}
theorem treeL_set (l : List RV) (j : Nat) (x : RV) (h : (treeL l)[j]? = some x.tree) : treeL (l.set j x) = treeL l := by
  induction l generalizing j with
  | nil => rfl
  | cons a l ih =>
    cases j with
    | zero => simp [treeL] at h ⊢; exact h.symm
    | succ j => simp [treeL] at h ⊢; exact ih j h
end
theorem Box15.len {cb : Nat} {q : Pk} {i : Nat} {A : Option Addr} {c : Nat} {m m' : List RV} {W : World} (h : Box15 cb (q.setR i A c m) W) (hi : i < 6) (hl : m'.length = m.length) : Box15 cb (q.setR i A c m') W := by
  unfold Box15 PkAt at *
  obtain rfl | rfl | rfl | rfl | rfl | rfl : i = 0 ∨ i = 1 ∨ i = 2 ∨ i = 3 ∨ i = 4 ∨ i = 5 := by omega
  all_goals (simp only [Pk.setR, hl] at h ⊢; exact h)
theorem Box15.butR {cb R : Nat} {q : Pk} {W W' : World} (h : Box15 cb q W) (hb : ButR R W W') (hr : cb ≠ R) : Box15 cb q W' := by
  obtain ⟨⟨hl, c0, c1, c2, c3, c4, c5, c6, c7, c8, c9, c10, c11, c12, c13, c14⟩, hf, hlt⟩ := h
  have k : ∀ i, W'.cell? ⟨cb, i, none⟩ = W.cell? ⟨cb, i, none⟩ := fun i => hb.cellK (p := ⟨cb, i, none⟩) hlt hr
  exact ⟨⟨Nat.lt_of_lt_of_le hl hb.size, (k 0).trans c0, (k 1).trans c1, (k 2).trans c2, (k 3).trans c3, (k 4).trans c4, (k 5).trans c5, (k 6).trans c6, (k 7).trans c7, (k 8).trans c8, (k 9).trans c9, (k 10).trans c10, (k 11).trans c11, (k 12).trans c12, (k 13).trans c13, (k 14).trans c14⟩, fun i hi => (hb.frozenK (p := ⟨cb, i, none⟩) hlt hr).trans (hf i hi), Nat.lt_of_lt_of_le hlt hb.size⟩
theorem Alike.setR {p q : Pk} (h : Alike p q) {i : Nat} (hi : i < 6) (A : Option Addr) (c : Nat) {m : List RV} (hm : treeL m = treeL (sixL q i)) : Alike p (q.setR i A c m) := by
  obtain rfl | rfl | rfl | rfl | rfl | rfl : i = 0 ∨ i = 1 ∨ i = 2 ∨ i = 3 ∨ i = 4 ∨ i = 5 := by omega
  · exact { h with req := hm.trans h.req }
  · exact { h with con := hm.trans h.con }
  · exact { h with rcm := hm.trans h.rcm }
  · exact { h with sup := hm.trans h.sup }
  · exact { h with sug := hm.trans h.sug }
  · exact { h with enh := hm.trans h.enh }
theorem six_set (q : Pk) {i : Nat} (hi : i < 6) (A : Option Addr) (c : Nat) (m : List RV) : sixL (q.setR i A c m) i = m ∧ (q.setR i A c m).rA i = A ∧ (q.setR i A c m).rC i = c := by
  obtain rfl | rfl | rfl | rfl | rfl | rfl : i = 0 ∨ i = 1 ∨ i = 2 ∨ i = 3 ∨ i = 4 ∨ i = 5 := by omega
  all_goals exact ⟨rfl, rfl, rfl⟩
theorem six_oth (q : Pk) {i j : Nat} (hi : i < 6) (hj : j < 6) (hne : j ≠ i) (A : Option Addr) (c : Nat) (m : List RV) : sixL (q.setR i A c m) j = sixL q j ∧ (q.setR i A c m).rA j = q.rA j ∧ (q.setR i A c m).rC j = q.rC j := by
  obtain rfl | rfl | rfl | rfl | rfl | rfl : i = 0 ∨ i = 1 ∨ i = 2 ∨ i = 3 ∨ i = 4 ∨ i = 5 := by omega
  all_goals (obtain rfl | rfl | rfl | rfl | rfl | rfl : j = 0 ∨ j = 1 ∨ j = 2 ∨ j = 3 ∨ j = 4 ∨ j = 5 := by omega)
  all_goals first | (exact absurd rfl hne) | exact ⟨rfl, rfl, rfl⟩
theorem set_other (q : Pk) {i : Nat} (hi : i < 6) (A : Option Addr) (c : Nat) (m : List RV) : (q.setR i A c m).provA = q.provA ∧ (q.setR i A c m).provC = q.provC ∧ (q.setR i A c m).prov = q.prov ∧ (q.setR i A c m).obsA = q.obsA ∧ (q.setR i A c m).obsC = q.obsC ∧ (q.setR i A c m).obs = q.obs ∧ (q.setR i A c m).filesA = q.filesA ∧ (q.setR i A c m).filesC = q.filesC ∧ (q.setR i A c m).files = q.files := by
  obtain rfl | rfl | rfl | rfl | rfl | rfl : i = 0 ∨ i = 1 ∨ i = 2 ∨ i = 3 ∨ i = 4 ∨ i = 5 := by omega
  all_goals exact ⟨rfl, rfl, rfl, rfl, rfl, rfl, rfl, rfl, rfl⟩
theorem boxR_at {cb : Nat} {q : Pk} {i : Nat} {A : Option Addr} {c : Nat} {m : List RV} {W : World} (h : Box15 cb (q.setR i A c m) W) (hi : i < 6) : W.cell? ⟨cb, offR i, none⟩ = some (.slice A m.length c) ∧ W.frozen? ⟨cb, offR i, none⟩ = false := by
  obtain ⟨e1, e2, e3⟩ := six_set q hi A c m
  have h1 := box_row h hi
  rw [e1, e2, e3] at h1
  exact ⟨h1, h.2.1 _ (offR_lt i)⟩
theorem PtrAt.butR {gp cb n R : Nat} {offs : Nat → Nat} {W W' : World} (h : PtrAt gp cb offs n W) (hb : ButR R W W') (hr : gp ≠ R) : PtrAt gp cb offs n W' := ⟨Nat.lt_of_lt_of_le h.1 hb.size, h.2.1, fun i hi => (hb.cellK (p := ⟨gp, i, none⟩) h.1 hr).trans (h.2.2 i hi)⟩
theorem ButR.setL_new {R g : Nat} {a : World} (hg : a.heap.size ≤ g) : ∀ (l : List Value) (k : Nat) (w : World), ButR R a w → ButR R a (setL g k l w)
  | [], _, w, h => h
  | v :: l, k, w, h => ButR.setL_new hg l (k + 1) _ (h.setNew (p := ⟨g, k, none⟩) hg v)
end
end Go.Proofs.YteobmfpbgnmffaaGreatDoor
