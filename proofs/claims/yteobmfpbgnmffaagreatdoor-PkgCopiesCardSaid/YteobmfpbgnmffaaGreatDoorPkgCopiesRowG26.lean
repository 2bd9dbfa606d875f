/- PkLessR -/
import Derived.Test.YteobmfpbgnmffaaGreatDoorPkgCopiesRowG23
import Derived.Test.YteobmfpbgnmffaaGreatDoorPkgCopiesRowG25
set_option linter.unusedSimpArgs false
set_option linter.unusedVariables false
/- A package without one of its dependencies: its box, and what it may be. -/


namespace Go.Proofs.YteobmfpbgnmffaaGreatDoor
open Go.RowKit Go.Shelf
set_option linter.unusedVariables false

section
variable {α : Type} {enc : α → List Value} {size B : Nat} {W : World}
end
def offR : Nat → Nat | 0 => 7 | 1 => 8 | 2 => 10 | 3 => 11 | 4 => 12 | _ => 13
def Pk.rA (q : Pk) : Nat → Option Addr | 0 => q.reqA | 1 => q.conA | 2 => q.rcmA | 3 => q.supA | 4 => q.sugA | _ => q.enhA
def Pk.rC (q : Pk) : Nat → Nat | 0 => q.reqC | 1 => q.conC | 2 => q.rcmC | 3 => q.supC | 4 => q.sugC | _ => q.enhC
def Pk.setR (q : Pk) (i : Nat) (A : Option Addr) (c : Nat) (l : List RV) : Pk := match i with
  | 0 => { q with reqA := A, reqC := c, req := l }
  | 1 => { q with conA := A, conC := c, con := l }
  | 2 => { q with rcmA := A, rcmC := c, rcm := l }
  | 3 => { q with supA := A, supC := c, sup := l }
  | 4 => { q with sugA := A, sugC := c, sug := l }
  | _ => { q with enhA := A, enhC := c, enh := l }
theorem box_row {cb : Nat} {q : Pk} {W : World} (h : Box15 cb q W) {i : Nat} (hi : i < 6) : W.cell? ⟨cb, offR i, none⟩ = some (.slice (q.rA i) (sixL q i).length (q.rC i)) := by
  obtain ⟨⟨_, c0, c1, c2, c3, c4, c5, c6, c7, c8, c9, c10, c11, c12, c13, c14⟩, _⟩ := h
  obtain rfl | rfl | rfl | rfl | rfl | rfl : i = 0 ∨ i = 1 ∨ i = 2 ∨ i = 3 ∨ i = 4 ∨ i = 5 := by omega
  · exact c7
  · exact c8
  · exact c10
  · exact c11
  · exact c12
  · exact c13
theorem offR_lt (i : Nat) : offR i < 15 := by unfold offR; split <;> omega
theorem laid_row {B : Nat} {q : Pk} {W : World} (h : q.Laid B W) {i : Nat} (hi : i < 6) : RRow B W (q.rA i) (q.rC i) (sixL q i) := by
  obtain rfl | rfl | rfl | rfl | rfl | rfl : i = 0 ∨ i = 1 ∨ i = 2 ∨ i = 3 ∨ i = 4 ∨ i = 5 := by omega
  · exact h.req
  · exact h.con
  · exact h.rcm
  · exact h.sup
  · exact h.sug
  · exact h.enh
theorem Box15.set_req {cb : Nat} {q : Pk} {W : World} (h : Box15 cb q W) (A : Option Addr) (c : Nat) (l : List RV) : Box15 cb { q with reqA := A, reqC := c, req := l } (W.setCell ⟨cb, 7, none⟩ (.slice A l.length c)) := by
  obtain ⟨⟨hl, c0, c1, c2, c3, c4, c5, c6, c7, c8, c9, c10, c11, c12, c13, c14⟩, hf, _⟩ := h
  have hz : cb < (W.setCell ⟨cb, 7, none⟩ (.slice A l.length c)).heap.size := by simpa [World.setCell] using hl
  exact ⟨⟨hz, (sc_other (by simp)).trans c0, (sc_other (by simp)).trans c1, (sc_other (by simp)).trans c2, (sc_other (by simp)).trans c3, (sc_other (by simp)).trans c4, (sc_other (by simp)).trans c5, (sc_other (by simp)).trans c6, sc_same c7, (sc_other (by simp)).trans c8, (sc_other (by simp)).trans c9, (sc_other (by simp)).trans c10, (sc_other (by simp)).trans c11, (sc_other (by simp)).trans c12, (sc_other (by simp)).trans c13, (sc_other (by simp)).trans c14⟩, fun i hi => by rw [World.frozen?_setCell]; exact hf i hi, hz⟩
theorem Box15.set_con {cb : Nat} {q : Pk} {W : World} (h : Box15 cb q W) (A : Option Addr) (c : Nat) (l : List RV) : Box15 cb { q with conA := A, conC := c, con := l } (W.setCell ⟨cb, 8, none⟩ (.slice A l.length c)) := by
  obtain ⟨⟨hl, c0, c1, c2, c3, c4, c5, c6, c7, c8, c9, c10, c11, c12, c13, c14⟩, hf, _⟩ := h
  have hz : cb < (W.setCell ⟨cb, 8, none⟩ (.slice A l.length c)).heap.size := by simpa [World.setCell] using hl
  exact ⟨⟨hz, (sc_other (by simp)).trans c0, (sc_other (by simp)).trans c1, (sc_other (by simp)).trans c2, (sc_other (by simp)).trans c3, (sc_other (by simp)).trans c4, (sc_other (by simp)).trans c5, (sc_other (by simp)).trans c6, (sc_other (by simp)).trans c7, sc_same c8, (sc_other (by simp)).trans c9, (sc_other (by simp)).trans c10, (sc_other (by simp)).trans c11, (sc_other (by simp)).trans c12, (sc_other (by simp)).trans c13, (sc_other (by simp)).trans c14⟩, fun i hi => by rw [World.frozen?_setCell]; exact hf i hi, hz⟩
theorem Box15.set_rcm {cb : Nat} {q : Pk} {W : World} (h : Box15 cb q W) (A : Option Addr) (c : Nat) (l : List RV) : Box15 cb { q with rcmA := A, rcmC := c, rcm := l } (W.setCell ⟨cb, 10, none⟩ (.slice A l.length c)) := by
  obtain ⟨⟨hl, c0, c1, c2, c3, c4, c5, c6, c7, c8, c9, c10, c11, c12, c13, c14⟩, hf, _⟩ := h
  have hz : cb < (W.setCell ⟨cb, 10, none⟩ (.slice A l.length c)).heap.size := by simpa [World.setCell] using hl
  exact ⟨⟨hz, (sc_other (by simp)).trans c0, (sc_other (by simp)).trans c1, (sc_other (by simp)).trans c2, (sc_other (by simp)).trans c3, (sc_other (by simp)).trans c4, (sc_other (by simp)).trans c5, (sc_other (by simp)).trans c6, (sc_other (by simp)).trans c7, (sc_other (by simp)).trans c8, (sc_other (by simp)).trans c9, sc_same c10, (sc_other (by simp)).trans c11, (sc_other (by simp)).trans c12, (sc_other (by simp)).trans c13, (sc_other (by simp)).trans c14⟩, fun i hi => by rw [World.frozen?_setCell]; exact hf i hi, hz⟩
theorem Box15.set_sup {cb : Nat} {q : Pk} {W : World} (h : Box15 cb q W) (A : Option Addr) (c : Nat) (l : List RV) : Box15 cb { q with supA := A, supC := c, sup := l } (W.setCell ⟨cb, 11, none⟩ (.slice A l.length c)) := by
  obtain ⟨⟨hl, c0, c1, c2, c3, c4, c5, c6, c7, c8, c9, c10, c11, c12, c13, c14⟩, hf, _⟩ := h
  have hz : cb < (W.setCell ⟨cb, 11, none⟩ (.slice A l.length c)).heap.size := by simpa [World.setCell] using hl
  exact ⟨⟨hz, (sc_other (by simp)).trans c0, (sc_other (by simp)).trans c1, (sc_other (by simp)).trans c2, (sc_other (by simp)).trans c3, (sc_other (by simp)).trans c4, (sc_other (by simp)).trans c5, (sc_other (by simp)).trans c6, (sc_other (by simp)).trans c7, (sc_other (by simp)).trans c8, (sc_other (by simp)).trans c9, (sc_other (by simp)).trans c10, sc_same c11, (sc_other (by simp)).trans c12, (sc_other (by simp)).trans c13, (sc_other (by simp)).trans c14⟩, fun i hi => by rw [World.frozen?_setCell]; exact hf i hi, hz⟩
theorem Box15.set_sug {cb : Nat} {q : Pk} {W : World} (h : Box15 cb q W) (A : Option Addr) (c : Nat) (l : List RV) : Box15 cb { q with sugA := A, sugC := c, sug := l } (W.setCell ⟨cb, 12, none⟩ (.slice A l.length c)) := by
  obtain ⟨⟨hl, c0, c1, c2, c3, c4, c5, c6, c7, c8, c9, c10, c11, c12, c13, c14⟩, hf, _⟩ := h
  have hz : cb < (W.setCell ⟨cb, 12, none⟩ (.slice A l.length c)).heap.size := by simpa [World.setCell] using hl
  exact ⟨⟨hz, (sc_other (by simp)).trans c0, (sc_other (by simp)).trans c1, (sc_other (by simp)).trans c2, (sc_other (by simp)).trans c3, (sc_other (by simp)).trans c4, (sc_other (by simp)).trans c5, (sc_other (by simp)).trans c6, (sc_other (by simp)).trans c7, (sc_other (by simp)).trans c8, (sc_other (by simp)).trans c9, (sc_other (by simp)).trans c10, (sc_other (by simp)).trans c11, sc_same c12, (sc_other (by simp)).trans c13, (sc_other (by simp)).trans c14⟩, fun i hi => by rw [World.frozen?_setCell]; exact hf i hi, hz⟩
theorem Box15.set_enh {cb : Nat} {q : Pk} {W : World} (h : Box15 cb q W) (A : Option Addr) (c : Nat) (l : List RV) : Box15 cb { q with enhA := A, enhC := c, enh := l } (W.setCell ⟨cb, 13, none⟩ (.slice A l.length c)) := by
  obtain ⟨⟨hl, c0, c1, c2, c3, c4, c5, c6, c7, c8, c9, c10, c11, c12, c13, c14⟩, hf, _⟩ := h
  have hz : cb < (W.setCell ⟨cb, 13, none⟩ (.slice A l.length c)).heap.size := by simpa [World.setCell] using hl
  exact ⟨⟨hz, (sc_other (by simp)).trans c0, (sc_other (by simp)).trans c1, (sc_other (by simp)).trans c2, (sc_other (by simp)).trans c3, (sc_other (by simp)).trans c4, (sc_other (by simp)).trans c5, (sc_other (by simp)).trans c6, (sc_other (by simp)).trans c7, (sc_other (by simp)).trans c8, (sc_other (by simp)).trans c9, (sc_other (by simp)).trans c10, (sc_other (by simp)).trans c11, (sc_other (by simp)).trans c12, sc_same c13, (sc_other (by simp)).trans c14⟩, fun i hi => by rw [World.frozen?_setCell]; exact hf i hi, hz⟩
theorem Box15.set_prov {cb : Nat} {q : Pk} {W : World} (h : Box15 cb q W) (A : Option Addr) (c : Nat) (l : List Dp) : Box15 cb { q with provA := A, provC := c, prov := l } (W.setCell ⟨cb, 6, none⟩ (.slice A l.length c)) := by
  obtain ⟨⟨hl, c0, c1, c2, c3, c4, c5, c6, c7, c8, c9, c10, c11, c12, c13, c14⟩, hf, _⟩ := h
  have hz : cb < (W.setCell ⟨cb, 6, none⟩ (.slice A l.length c)).heap.size := by simpa [World.setCell] using hl
  exact ⟨⟨hz, (sc_other (by simp)).trans c0, (sc_other (by simp)).trans c1, (sc_other (by simp)).trans c2, (sc_other (by simp)).trans c3, (sc_other (by simp)).trans c4, (sc_other (by simp)).trans c5, sc_same c6, (sc_other (by simp)).trans c7, (sc_other (by simp)).trans c8, (sc_other (by simp)).trans c9, (sc_other (by simp)).trans c10, (sc_other (by simp)).trans c11, (sc_other (by simp)).trans c12, (sc_other (by simp)).trans c13, (sc_other (by simp)).trans c14⟩, fun i hi => by rw [World.frozen?_setCell]; exact hf i hi, hz⟩
theorem Box15.set_obs {cb : Nat} {q : Pk} {W : World} (h : Box15 cb q W) (A : Option Addr) (c : Nat) (l : List Dp) : Box15 cb { q with obsA := A, obsC := c, obs := l } (W.setCell ⟨cb, 9, none⟩ (.slice A l.length c)) := by
  obtain ⟨⟨hl, c0, c1, c2, c3, c4, c5, c6, c7, c8, c9, c10, c11, c12, c13, c14⟩, hf, _⟩ := h
  have hz : cb < (W.setCell ⟨cb, 9, none⟩ (.slice A l.length c)).heap.size := by simpa [World.setCell] using hl
  exact ⟨⟨hz, (sc_other (by simp)).trans c0, (sc_other (by simp)).trans c1, (sc_other (by simp)).trans c2, (sc_other (by simp)).trans c3, (sc_other (by simp)).trans c4, (sc_other (by simp)).trans c5, (sc_other (by simp)).trans c6, (sc_other (by simp)).trans c7, (sc_other (by simp)).trans c8, sc_same c9, (sc_other (by simp)).trans c10, (sc_other (by simp)).trans c11, (sc_other (by simp)).trans c12, (sc_other (by simp)).trans c13, (sc_other (by simp)).trans c14⟩, fun i hi => by rw [World.frozen?_setCell]; exact hf i hi, hz⟩
theorem Box15.set_files {cb : Nat} {q : Pk} {W : World} (h : Box15 cb q W) (A : Option Addr) (c : Nat) (l : List ByteArray) : Box15 cb { q with filesA := A, filesC := c, files := l } (W.setCell ⟨cb, 14, none⟩ (.slice A l.length c)) := by
  obtain ⟨⟨hl, c0, c1, c2, c3, c4, c5, c6, c7, c8, c9, c10, c11, c12, c13, c14⟩, hf, _⟩ := h
  have hz : cb < (W.setCell ⟨cb, 14, none⟩ (.slice A l.length c)).heap.size := by simpa [World.setCell] using hl
  exact ⟨⟨hz, (sc_other (by simp)).trans c0, (sc_other (by simp)).trans c1, (sc_other (by simp)).trans c2, (sc_other (by simp)).trans c3, (sc_other (by simp)).trans c4, (sc_other (by simp)).trans c5, (sc_other (by simp)).trans c6, (sc_other (by simp)).trans c7, (sc_other (by simp)).trans c8, (sc_other (by simp)).trans c9, (sc_other (by simp)).trans c10, (sc_other (by simp)).trans c11, (sc_other (by simp)).trans c12, (sc_other (by simp)).trans c13, sc_same c14⟩, fun i hi => by rw [World.frozen?_setCell]; exact hf i hi, hz⟩
theorem Box15.setR {cb : Nat} {q : Pk} {W : World} (h : Box15 cb q W) (A : Option Addr) (c : Nat) (l : List RV) {i : Nat} (hi : i < 6) : Box15 cb (q.setR i A c l) (W.setCell ⟨cb, offR i, none⟩ (.slice A l.length c)) := by
  obtain rfl | rfl | rfl | rfl | rfl | rfl : i = 0 ∨ i = 1 ∨ i = 2 ∨ i = 3 ∨ i = 4 ∨ i = 5 := by omega
  · exact h.set_req A c l
  · exact h.set_con A c l
  · exact h.set_rcm A c l
  · exact h.set_sup A c l
  · exact h.set_sug A c l
  · exact h.set_enh A c l
section
variable {α : Type} {enc : α → List Value} {size cb : Nat} {A : Option Addr} {c : Nat} {l : List α} {W W' : World}
end
/-- pointers to the copy's lists -/
def PtrAt (gp cb : Nat) (offs : Nat → Nat) (n : Nat) (W : World) : Prop := gp < W.heap.size ∧ gp ≠ cb ∧ ∀ i, i < n → W.cell? ⟨gp, i, none⟩ = some (.pointer (some ⟨cb, offs i, none⟩))
theorem few_of {p : Pk} {B : Nat} {W : World} (hs : p.small ∧ ∀ k, k < 6 → partsL (treeL (sixL p k)) ≤ 2000) : p.few :=
  ⟨by have := hs.1.provN; omega, by have := hs.1.obsN; omega, by have := hs.1.filesN; omega, Nat.le_trans (show partsL (treeL p.req) ≤ 2000 from hs.2 0 (by omega)) (by omega), Nat.le_trans (show partsL (treeL p.con) ≤ 2000 from hs.2 1 (by omega)) (by omega), Nat.le_trans (show partsL (treeL p.rcm) ≤ 2000 from hs.2 2 (by omega)) (by omega), Nat.le_trans (show partsL (treeL p.sup) ≤ 2000 from hs.2 3 (by omega)) (by omega), Nat.le_trans (show partsL (treeL p.sug) ≤ 2000 from hs.2 4 (by omega)) (by omega), Nat.le_trans (show partsL (treeL p.enh) ≤ 2000 from hs.2 5 (by omega)) (by omega)⟩
end Go.Proofs.YteobmfpbgnmffaaGreatDoor
