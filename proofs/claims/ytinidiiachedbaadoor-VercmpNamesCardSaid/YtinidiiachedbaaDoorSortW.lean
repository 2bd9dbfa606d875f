/- Walks: Go's stable sort at texts: memory; two parts exchanged; turned about. -/
import Derived.Test.YtinidiiachedbaaDoorSortPlain2
import Derived.Test.YtinidiiachedbaaDoorVmLaw
import Derived.Test.YtinidiiachedbaaDoorVmComp
import Derived.RegionTactic
import Derived.ChangeAlike
import Derived.BigRegion
import Derived.Deep.RegionHeld3
import Derived.Maps.AppendAt
import Derived.Maps.Range
import Derived.IntWalk
namespace Go.Proofs.YtinidiiachedbaaDoor
open Go.RowKit Go.Shelf

/-- the row's cells from the block's first on are these texts -/
def RowS (W : World) (g : Nat) (d : List ByteArray) : Prop := g < W.heap.size ∧ ∀ (k : Nat) (hk : k < d.length), W.cell? ⟨g, k, none⟩ = some (.string d[k]) ∧ W.frozen? ⟨g, k, none⟩ = false
section
variable {W W' : World} {g : Nat} {d : List ByteArray}
theorem RowS.set (h : RowS W g d) {i : Nat} (hi : i < d.length) (x : ByteArray) : RowS (W.setCell ⟨g, i, none⟩ (.string x)) g (d.set i x) := by
  refine ⟨by simpa [World.setCell] using h.1, fun k hk => ?_⟩
  rw [List.length_set] at hk
  refine ⟨?_, by rw [World.frozen?_setCell]; exact (h.2 k hk).2⟩
  by_cases e : i = k
  · subst e
    rw [World.cell?_setCell_same _ _ _ (h.2 i hi).1, List.getElem_set_self]
  · rw [World.cell?_setCell_other _ _ _ _ (by intro h2; injection h2 with _ h3 _; exact e h3), List.getElem_set_ne e]
    exact (h.2 k hk).1
theorem RowS.below {n : Nat} (h : RowS W g d) (hb : Below n W W') (hg : g < n) : RowS W' g d :=
  ⟨Nat.lt_of_lt_of_le h.1 hb.size, fun k hk => ⟨(hb.cell (p := ⟨g, k, none⟩) hg).trans (h.2 k hk).1, (hb.frozen (p := ⟨g, k, none⟩) hg).trans (h.2 k hk).2⟩⟩
theorem RowS.calls (h : RowS W g d) (hb : Below W.heap.size W W') : RowS W' g d := h.below hb h.1
theorem RowS.drew (h : RowS W g d) : RowS W.drew g d := h
theorem RowS.drewN (h : RowS W g d) (n : Nat) : RowS (W.drewN n) g d := h
theorem RowS.at_ (h : RowS W g d) {k : Nat} {x : ByteArray} (e : d[k]? = some x) : W.cell? ⟨g, k, none⟩ = some (.string x) ∧ W.frozen? ⟨g, k, none⟩ = false := by
  obtain ⟨hk, rfl⟩ := List.getElem?_eq_some_iff.1 e
  exact h.2 k hk
end
/-- nothing but the row has turned, and what is new -/
def Turn (w W : World) (g : Nat) : Prop := w.grownBy W (some g)
section
variable {w W W' : World} {g : Nat}
theorem Turn.refl : Turn w w g := World.grownBy.refl w _
theorem Turn.trans {V : World} (h : Turn w W g) (k : Turn W V g) : Turn w V g := World.grownBy.trans h k
theorem Turn.calls (h : Turn w W g) (hb : Below W.heap.size W W') : Turn w W' g := World.grownBy.trans h ⟨hb.os, hb.tape, hb.output, hb.size, fun k hk _ => hb.block k hk⟩
theorem Turn.drew (h : Turn w W g) : Turn w W.drew g := ⟨h.os, h.tape, h.output, h.size, h.block⟩
theorem Turn.drewN (h : Turn w W g) (n : Nat) : Turn w (W.drewN n) g := ⟨h.os, h.tape, h.output, h.size, h.block⟩
theorem Turn.set (h : Turn w W g) (i : Nat) (v : Value) : Turn w (W.setCell ⟨g, i, none⟩ v) g :=
  ⟨h.os, h.tape, h.output, by simpa [World.setCell] using h.size, fun i hi hne => (Below.heap_setCell W _ v i (by rintro rfl; exact hne rfl)).trans (h.block i hi hne)⟩
end
/-- a text is less than another one, as versions -/
def ltS (a b : ByteArray) : Bool := decide (comp a.toList b.toList < 0)
theorem ordS : Ordr ltS where
  asymm a b h := by
    unfold ltS at *
    have := comp_neg a.toList b.toList
    simp at *; omega
  ntrans a b c h1 h2 := by
    unfold ltS at *
    simp at *
    exact (comp_ge_trans (a := a.toList) (b := b.toList) (c := c.toList) (by omega) (by omega)).1
/-- short enough for the comparison -/
def Sh (d : List ByteArray) : Prop := ∀ x ∈ d, x.size ≤ 1000000
abbrev cmpF : Value := .func (.func 39) #[] #[]
set_option maxRecDepth 100000 in
set_option maxHeartbeats 2000000 in
theorem sortCmp_any (a b : ByteArray) (w : World) (ha : a.size ≤ 1000000) (hb : b.size ≤ 1000000) : Calls Tryd.prog 39 #[.string a, .string b] w fun e w' => e = .returned (.int .i64 (comp a.toList b.toList)) ∧ Below w.heap.size w w' := by
  have C := Lib.hid (comp_any a b w ha hb)
  go_enter Tryd.func39, Tryd.ntmps39
  go_wp2_with fail
  go_at_call 15
  refine C.out.mono ?_
  rintro e w1 ⟨rfl, h⟩
  go_wp2
  go_ret
  exact ⟨rfl, h⟩

/- two parts exchanged -/
set_option maxRecDepth 100000 in
set_option maxHeartbeats 4000000 in
theorem swapRange_any (g cap N : Nat) (f : Value) (A X M Y C : List ByteArray) (a b n : Nat) (w : World) (hxy : X.length = n ∧ Y.length = n) (ha : a = A.length) (hb : b = A.length + X.length + M.length) (hN : N = (A ++ X ++ M ++ Y ++ C).length) (hN2 : N ≤ 1000000)
    (hrow : RowS w g (A ++ X ++ M ++ Y ++ C)) :
    Calls Tryd.prog 152 #[.slice (some ⟨g, 0, none⟩) N cap, .int .i64 (a : Int), .int .i64 (b : Int), .int .i64 (n : Int), f] w fun e w' => e = .returned (.tuple #[]) ∧ RowS w' g (A ++ Y ++ M ++ X ++ C) ∧ Turn w w' g := by
  obtain ⟨hx, hy⟩ := hxy
  have hl : a + n + M.length + n + C.length = N := by rw [hN]; simp; omega
  have hb2 : b = a + n + M.length := by omega
  have HX := Lib.hid hx
  have HY := Lib.hid hy
  have HA := Lib.hid ha
  clear hx hy ha hb hN
  have han : a + n ≤ N := by omega
  have hbn : b + n ≤ N := by omega
  have hab : a + n ≤ b := by omega
  have HB := Lib.hid hb2
  clear hb2 hl
  go_enter Tryd.func152, Tryd.ntmps152
  go_wp2
  go_loopw [10] (fun i wr => ∃ (k : Nat) (X1 X2 Y1 Y2 : List ByteArray), k ≤ n ∧ i = .int .i64 (k : Int) ∧ RowKit.Hid (X = X1 ++ X2) ∧ RowKit.Hid (Y = Y1 ++ Y2) ∧ RowKit.Hid (X1.length = k) ∧ RowKit.Hid (Y1.length = k) ∧ RowS wr g (A ++ Y1 ++ X2 ++ M ++ X1 ++ Y2 ++ C) ∧ Turn w wr g) (fun i _ => n - (intOf i).toNat)
  case atStart => exact ⟨0, [], X, [], Y, by omega, rfl, Lib.hid rfl, Lib.hid rfl, Lib.hid rfl, Lib.hid rfl, by simpa using hrow, Turn.refl⟩
  case round =>
    obtain ⟨k, X1, X2, Y1, Y2, hk, rfl, ex, ey, lx, ly, hR, hT⟩ := hrel
    by_cases hlt : k < n
    · obtain ⟨x, X2, rfl⟩ : ∃ x r, X2 = x :: r := by
        have h1 := congrArg List.length ex.out
        have := HX.out; have := lx.out
        cases X2 with
        | nil => simp at h1; omega
        | cons x r => exact ⟨x, r, rfl⟩
      obtain ⟨y, Y2, rfl⟩ : ∃ x r, Y2 = x :: r := by
        have h1 := congrArg List.length ey.out
        have := HY.out; have := ly.out
        cases Y2 with
        | nil => simp at h1; omega
        | cons x r => exact ⟨x, r, rfl⟩
      have h1 := congrArg List.length ex.out
      have e1 : a + k = (A ++ Y1).length := by rw [List.length_append, ly.out, HA.out]
      have e2 : b + k = (A ++ Y1).length + 1 + (X2 ++ M ++ X1).length := by
        have := HX.out; have := lx.out; have := ly.out; have := HA.out; have := HB.out
        simp at h1 ⊢; omega
      have hD : A ++ Y1 ++ (x :: X2) ++ M ++ X1 ++ (y :: Y2) ++ C = (A ++ Y1) ++ x :: ((X2 ++ M ++ X1) ++ y :: (Y2 ++ C)) := by simp
      rw [hD] at hR
      have hR2 := Lib.hid hR
      obtain ⟨c1, f1⟩ := hR.at_ (one_at e1)
      obtain ⟨c2, f2⟩ := hR.at_ (two_at e2)
      have i1 : (0 : Int) ≤ (a : Int) + (k : Int) := by omega
      have i2 : (a : Int) + (k : Int) < (N : Int) := by omega
      have i3 : (0 : Int) ≤ (b : Int) + (k : Int) := by omega
      have i4 : (b : Int) + (k : Int) < (N : Int) := by omega
      clear hR hD h1
      have E1 := Lib.hid e1
      have E2 := Lib.hid e2
      clear e1 e2
      have u1 : IntKind.i64.wrap ((a : Int) + (k : Int)) = (a : Int) + (k : Int) := IntWalk.i64_in _ (by omega)
      have u2 : IntKind.i64.wrap ((b : Int) + (k : Int)) = (b : Int) + (k : Int) := IntWalk.i64_in _ (by omega)
      have u3 : ((a : Int) + (k : Int)).toNat = a + k := by omega
      have u4 : ((b : Int) + (k : Int)).toNat = b + k := by omega
      have hne : a + k ≠ b + k := by omega
      go_wp2
      go_region
      have HR := ((hR2.out.set (i := a + k) (by have := E1.out; simp at this ⊢; omega) y).set (i := b + k) (by have := E2.out; simp at this ⊢; omega) x).drew
      rw [two_sets E1.out E2.out] at HR
      have HT := ((hT.set (a + k) (.string y)).set (b + k) (.string x)).drew
      generalize ((wr.setCell { block := g, off := a + k } (Value.string y)).setCell { block := g, off := b + k } (Value.string x)).drew = W at *
      clear c1 c2 f1 f2 i1 i2 i3 i4 u1 u2 u3 u4 hne
      go_wp2
      go_roundw
      case rel =>
        exact ⟨k + 1, X1 ++ [x], X2, Y1 ++ [y], Y2, by omega, by go_num, Lib.hid (by rw [ex.out]; simp), Lib.hid (by rw [ey.out]; simp), Lib.hid (by rw [List.length_append, lx.out]; rfl), Lib.hid (by rw [List.length_append, ly.out]; rfl), by simpa using HR, HT⟩
      case measure => simp [intOf]; omega
    · have ekn : k = n := by omega
      have hX2 : X2 = [] := by
        have h1 := congrArg List.length ex.out
        have := HX.out; have := lx.out
        exact List.eq_nil_of_length_eq_zero (by simp at h1; omega)
      have hY2 : Y2 = [] := by
        have h1 := congrArg List.length ey.out
        have := HY.out; have := ly.out
        exact List.eq_nil_of_length_eq_zero (by simp at h1; omega)
      have HR := Lib.hid (show RowS wr g (A ++ Y ++ M ++ X ++ C) by rw [ex.out, ey.out, hX2, hY2]; rw [hX2, hY2] at hR; simpa using hR)
      clear hX2 hY2 hR ekn
      go_wp2
      go_end0
      exact ⟨rfl, HR.out, hT⟩
end Go.Proofs.YtinidiiachedbaaDoor
