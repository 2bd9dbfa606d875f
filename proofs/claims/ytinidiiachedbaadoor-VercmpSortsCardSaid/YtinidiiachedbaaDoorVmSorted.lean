/- VercmpSorted, walked (under way). -/
import Derived.Test.YtinidiiachedbaaDoorVmLong
import Derived.Test.YtinidiiachedbaaDoorSortOff
import Derived.Test.YtinidiiachedbaaDoorVmStat
import Derived.Deep.RegionHeld3
namespace Go.Proofs.YtinidiiachedbaaDoor
open Go.RowKit Go.Shelf

/-- those that compare the same as x -/
def eqTo (x : ByteArray) (y : ByteArray) : Bool := comp y.toList x.toList == 0
theorem eqTo_class (x : ByteArray) (a b : ByteArray) (ha : eqTo x a = true) (hb : eqTo x b = true) : ltS a b = false := by
  unfold eqTo at ha hb
  have h1 := comp_zero (beq_iff_eq.1 ha)
  have h2 := comp_zero (beq_iff_eq.1 hb)
  unfold ltS
  rw [comp_of_pts h1, comp_of_pts' h2, comp_self]
  decide
theorem stays (D : List ByteArray) (x : ByteArray) : (rs ltS D).filter (eqTo x) = D.filter (eqTo x) := rs_filter ordS (eqTo x) (eqTo_class x) D
theorem again (D : List ByteArray) : rs ltS (rs ltS D) = rs ltS D := rs_of_srt _ (rs_srt ordS D)
theorem in_row (D : List ByteArray) {j : Nat} {x y : ByteArray} (hx : (rs ltS D)[j]? = some x) (hy : (rs ltS D)[j + 1]? = some y) : comp x.toList y.toList ≤ 0 := by
  have hs := rs_srt ordS D
  have h := List.pairwise_iff_getElem.1 hs j (j + 1) (List.getElem?_eq_some_iff.1 hx).1 (List.getElem?_eq_some_iff.1 hy).1 (by omega)
  rw [(List.getElem?_eq_some_iff.1 hx).2, (List.getElem?_eq_some_iff.1 hy).2] at h
  unfold ltS at h
  have := comp_neg x.toList y.toList
  have := of_decide_eq_false h
  omega
/-- a row of the call's own, as texts -/
theorem own_trow {w : World} {base : Nat} {v : Value} {D : List ByteArray} (h : Own (fun s => [Value.string s]) 1 base 9 v D w) : TRow w v D := by
  obtain ⟨A, cap, e, hr⟩ := Own.rd h (fun _ => rfl)
  unfold Own at h
  rcases h.2 with ⟨hv, hn⟩ | ⟨g, cap', cur, hv, hb, hh, _⟩
  · exact .inr ⟨List.eq_nil_of_length_eq_zero hn, none, 0, hv⟩
  · refine .inl ⟨g, cap', by rw [hv], (Array.getElem?_eq_some_iff.1 hh).1, fun k hk => ?_⟩
    obtain ⟨b, o, hA, _, hc⟩ := hr.at1 (f := fun s => Value.string s) (fun _ => rfl) hk
    rw [hv, hA] at e
    simp only [Value.slice.injEq, Option.some.injEq, Addr.mk.injEq, true_and] at e
    obtain ⟨⟨e1, e2⟩, _⟩ := e
    subst e1
    rw [← e2.1] at hc
    simpa using hc
theorem sh_of {D : List ByteArray} (h : ∀ s ∈ D, s.size ≤ 300) : Sh D := fun x hx => Nat.le_trans (h x hx) (by decide)
abbrev encS : ByteArray → List Value := fun s => [Value.string s]
/-- two rows of the call's own, in blocks apart -/
def Two (w wr : World) (v u : Value) (L M : List ByteArray) : Prop := Own encS 1 w.heap.size 9 v L wr ∧ Own encS 1 w.heap.size 9 u M wr ∧ (∀ g, v.ownBlock = some g → u.ownBlock = some g → False) ∧ Below w.heap.size w wr
theorem Two.calls {w wr w' : World} {v u : Value} {L M : List ByteArray} (h : Two w wr v u L M) (hb : Below wr.heap.size wr w') : Two w w' v u L M :=
  ⟨Own.below h.1 hb (Nat.le_refl _), Own.below h.2.1 hb (Nat.le_refl _), h.2.2.1, h.2.2.2.trans (hb.mono h.2.2.2.size)⟩
theorem Two.drew {w wr : World} {v u : Value} {L M : List ByteArray} (h : Two w wr v u L M) : Two w wr.drew v u L M := ⟨Own.drew h.1, Own.drew h.2.1, h.2.2.1, h.2.2.2.drew⟩
theorem Two.swap {w wr : World} {v u : Value} {L M : List ByteArray} (h : Two w wr v u L M) : Two w wr u v M L := ⟨h.2.1, h.1, fun g a b => h.2.2.1 g b a, h.2.2.2⟩
theorem Two.start (w : World) : Two w w (.slice none 0 0) (.slice none 0 0) [] [] := ⟨Own.nil_ _ _ _, Own.nil_ _ _ _, fun g a => (by cases a), Below.refl _ _⟩
theorem Two.left {w wr w' : World} {v u v' : Value} {L M : List ByteArray} {x : ByteArray} {c : Obj} (h : Two w wr v u L M) (ho : w'.ownsRow w.heap.size 9 1 v' (L.length + 1) (L.flatMap encS ++ encS x)) (hg : (wr.alloc c).grownBy w' v.ownBlock)
    (hv : v'.ownBlock = v.ownBlock ∨ v'.ownBlock = some (wr.alloc c).heap.size) : Two w w' v' u (L ++ [x]) M := by
  obtain ⟨h1, h2, h3, h4⟩ := h
  have hs := h4.size
  have hu2 : ∀ k, u.ownBlock = some k → k < wr.heap.size := fun k hk => (World.ownsRow.lt h2 k hk).2
  have hv2 : ∀ k, v.ownBlock = some k → w.heap.size ≤ k := fun k hk => (World.ownsRow.lt h1 k hk).1
  refine ⟨Own.snoc ho, World.ownsRow.kept (World.ownsRow.alloc h2 c) hg ?_, ?_, (h4.alloc hs c).grown hg (by simp; omega) hv2⟩
  · cases hu : u.ownBlock with
    | none => exact .inl rfl
    | some k =>
      refine .inr fun e => ?_
      exact h3 k e.symm hu
  · intro g a b
    rcases hv with e | e
    · exact h3 g (e ▸ a) b
    · rw [e] at a
      have := hu2 g b
      have := Option.some.inj a
      simp at this
      omega
theorem ft (D : List ByteArray) (p : ByteArray → Bool) {k : Nat} (hk : k < D.length) : (D.take (k + 1)).filter p = (D.take k).filter p ++ (if p D[k] then [D[k]] else []) := by
  rw [← List.take_append_getElem hk, List.filter_append]
  congr 1
  simp [List.filter]
  cases p D[k] <;> rfl
theorem ft_len (D : List ByteArray) (p : ByteArray → Bool) (k : Nat) : ((D.take k).filter p).length ≤ k := Nat.le_trans (List.length_filter_le _ _) (by simp; omega)
def Sees (w6 W : World) (b g i' k' k : Nat) (x y z : ByteArray) (v u : Value) (L M : List ByteArray) : Prop := W.cell? ⟨b, k', none⟩ = some (.string y) ∧ W.cell? ⟨b, i', none⟩ = some (.string x) ∧ W.cell? ⟨g, k, none⟩ = some (.string z) ∧ Two w6 W v u L M
theorem Sees.calls {w6 W W' : World} {b g i' k' k : Nat} {x y z : ByteArray} {v u : Value} {L M : List ByteArray} (hb : b < w6.heap.size) (hg : g < w6.heap.size)
    (h : W.cell? ⟨b, k', none⟩ = some (.string y) ∧ W.cell? ⟨b, i', none⟩ = some (.string x) ∧ W.cell? ⟨g, k, none⟩ = some (.string z) ∧ Two w6 W v u L M) (hbb : Below W.heap.size W W') :
    W'.cell? ⟨b, k', none⟩ = some (.string y) ∧ W'.cell? ⟨b, i', none⟩ = some (.string x) ∧ W'.cell? ⟨g, k, none⟩ = some (.string z) ∧ Two w6 W' v u L M := by
  obtain ⟨h1, h2, h3, h4⟩ := h
  have hs := h4.2.2.2.size
  have q1 := Nat.lt_of_lt_of_le hb hs
  have q2 := Nat.lt_of_lt_of_le hg hs
  exact ⟨(hbb.cell (p := ⟨b, k', none⟩) q1).trans h1, (hbb.cell (p := ⟨b, i', none⟩) q1).trans h2, (hbb.cell (p := ⟨g, k, none⟩) q2).trans h3, h4.calls hbb⟩
theorem keepT {w5 W W' : World} {g j k : Nat} {x y : ByteArray} (hg : g < w5.heap.size) (h : W.cell? ⟨g, j, none⟩ = some (.string x) ∧ W.cell? ⟨g, k, none⟩ = some (.string y) ∧ Below w5.heap.size w5 W) (hb : Below W.heap.size W W') :
    W'.cell? ⟨g, j, none⟩ = some (.string x) ∧ W'.cell? ⟨g, k, none⟩ = some (.string y) ∧ Below w5.heap.size w5 W' := by
  obtain ⟨h1, h2, h3⟩ := h
  have hs := Nat.lt_of_lt_of_le hg h3.size
  exact ⟨(hb.cell (p := ⟨g, j, none⟩) hs).trans h1, (hb.cell (p := ⟨g, k, none⟩) hs).trans h2, h3.trans (hb.mono h3.size)⟩
end Go.Proofs.YtinidiiachedbaaDoor
