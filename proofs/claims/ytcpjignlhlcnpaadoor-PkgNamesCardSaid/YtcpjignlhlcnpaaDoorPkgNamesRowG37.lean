/- PkLessR -/
import Derived.Test.YtcpjignlhlcnpaaDoorPkgNamesRowG36
import Derived.Test.YtcpjignlhlcnpaaDoorPkgNamesRowG11
import Derived.Test.YtcpjignlhlcnpaaDoorPkgNamesRowG19
import Derived.Deep.RegionLaw
set_option linter.unusedSimpArgs false
set_option linter.unusedVariables false
/- A package without one of its dependencies: its box, and what it may be. -/


namespace Go.Proofs.YtcpjignlhlcnpaaDoor
open Go.RowKit Go.Shelf
set_option linter.unusedVariables false

section
variable {α : Type} {enc : α → List Value} {size B : Nat} {W : World}
end
theorem Box15.set_req {cb : Nat} {q : Pk} {W : World} (h : Box15 cb q W) (A : Option Addr) (c : Nat) (l : List RV) : Box15 cb { q with reqA := A, reqC := c, req := l } (W.setCell ⟨cb, 7, none⟩ (.slice A l.length c)) := by
  obtain ⟨⟨hl, c0, c1, c2, c3, c4, c5, c6, c7, c8, c9, c10, c11, c12, c13, c14⟩, hf, _⟩ := h
  have hz : cb < (W.setCell ⟨cb, 7, none⟩ (.slice A l.length c)).heap.size := by simpa [World.setCell] using hl
  exact ⟨⟨hz, (sc_other (by simp)).trans c0, (sc_other (by simp)).trans c1, (sc_other (by simp)).trans c2, (sc_other (by simp)).trans c3, (sc_other (by simp)).trans c4, (sc_other (by simp)).trans c5, (sc_other (by simp)).trans c6, sc_same c7, (sc_other (by simp)).trans c8, (sc_other (by simp)).trans c9, (sc_other (by simp)).trans c10, (sc_other (by simp)).trans c11, (sc_other (by simp)).trans c12, (sc_other (by simp)).trans c13, (sc_other (by simp)).trans c14⟩, fun i hi => by rw [World.frozen?_setCell]; exact hf i hi, hz⟩
theorem Box15.set_con {cb : Nat} {q : Pk} {W : World} (h : Box15 cb q W) (A : Option Addr) (c : Nat) (l : List RV) : Box15 cb { q with conA := A, conC := c, con := l } (W.setCell ⟨cb, 8, none⟩ (.slice A l.length c)) := by
  obtain ⟨⟨hl, c0, c1, c2, c3, c4, c5, c6, c7, c8, c9, c10, c11, c12, c13, c14⟩, hf, _⟩ := h
  have hz : cb < (W.setCell ⟨cb, 8, none⟩ (.slice A l.length c)).heap.size := by simpa [World.setCell] using hl
  exact ⟨⟨hz, (sc_other (by simp)).trans c0, (sc_other (by simp)).trans c1, (sc_other (by simp)).trans c2, (sc_other (by simp)).trans c3, (sc_other (by simp)).trans c4, (sc_other (by simp)).trans c5, (sc_other (by simp)).trans c6, (sc_other (by simp)).trans c7, sc_same c8, (sc_other (by simp)).trans c9, (sc_other (by simp)).trans c10, (sc_other (by simp)).trans c11, (sc_other (by simp)).trans c12, (sc_other (by simp)).trans c13, (sc_other (by simp)).trans c14⟩, fun i hi => by rw [World.frozen?_setCell]; exact hf i hi, hz⟩
theorem Box15.set_rcm {cb : Nat} {q : Pk} {W : World} (h : Box15 cb q W) (A : Option Addr) (c : Nat) (l : List RV) : Box15 cb { q with rcmA := A, rcmC := c, rcm := l } (W.setCell ⟨cb, 10, none⟩ (.slice A l.length c)) := by
  obtain ⟨⟨hl, c0, c1, c2, c3, c4, c5, c6, c7, c8, c9, c10, c11, c12, c13, c14⟩, hf, _⟩ := h
  have hz : cb < (W.setCell ⟨cb, 10, none⟩ (.slice A l.length c)).heap.size := by simpa [World.setCell] using hl
  exact ⟨⟨hz, (sc_other (by simp)).trans c0, (sc_other (by simp)).trans c1, (sc_other (by simp)).trans c2, (sc_other (by simp)).trans c3, (sc_other (by simp)).trans c4, (sc_other (by simp)).trans c5, (sc_other (by simp)).trans c6, (sc_other (by simp)).trans c7, (sc_other (by simp)).trans c8, (sc_other (by simp)).trans c9, sc_same c10, (sc_other (by simp)).trans c11, (sc_other (by simp)).trans c12, (sc_other (by simp)).trans c13, (sc_other (by simp)).trans c14⟩, fun i hi => by rw [World.frozen?_setCell]; exact hf i hi, hz⟩
theorem Box15.set_sup {cb : Nat} {q : Pk} {W : World} (h : Box15 cb q W) (A : Option Addr) (c : Nat) (l : List RV) : Box15 cb { q with supA := A, supC := c, sup := l } (W.setCell ⟨cb, 11, none⟩ (.slice A l.length c)) := by
  obtain ⟨⟨hl, c0, c1, c2, c3, c4, c5, c6, c7, c8, c9, c10, c11, c12, c13, c14⟩, hf, _⟩ := h
  have hz : cb < (W.setCell ⟨cb, 11, none⟩ (.slice A l.length c)).heap.size := by simpa [World.setCell] using hl
  exact ⟨⟨hz, (sc_other (by simp)).trans c0, (sc_other (by simp)).trans c1, (sc_other (by simp)).trans c2, (sc_other (by simp)).trans c3, (sc_other (by simp)).trans c4, (sc_other (by simp)).trans c5, (sc_other (by simp)).trans c6, (sc_other (by simp)).trans c7, (sc_other (by simp)).trans c8, (sc_other (by simp)).trans c9, (sc_other (by simp)).trans c10, sc_same c11, (sc_other (by simp)).trans c12, (sc_other (by simp)).trans c13, (sc_other (by simp)).trans c14⟩, fun i hi => by rw [World.frozen?_setCell]; exact hf i hi, hz⟩
theorem Box15.set_enh {cb : Nat} {q : Pk} {W : World} (h : Box15 cb q W) (A : Option Addr) (c : Nat) (l : List RV) : Box15 cb { q with enhA := A, enhC := c, enh := l } (W.setCell ⟨cb, 13, none⟩ (.slice A l.length c)) := by
  obtain ⟨⟨hl, c0, c1, c2, c3, c4, c5, c6, c7, c8, c9, c10, c11, c12, c13, c14⟩, hf, _⟩ := h
  have hz : cb < (W.setCell ⟨cb, 13, none⟩ (.slice A l.length c)).heap.size := by simpa [World.setCell] using hl
  exact ⟨⟨hz, (sc_other (by simp)).trans c0, (sc_other (by simp)).trans c1, (sc_other (by simp)).trans c2, (sc_other (by simp)).trans c3, (sc_other (by simp)).trans c4, (sc_other (by simp)).trans c5, (sc_other (by simp)).trans c6, (sc_other (by simp)).trans c7, (sc_other (by simp)).trans c8, (sc_other (by simp)).trans c9, (sc_other (by simp)).trans c10, (sc_other (by simp)).trans c11, (sc_other (by simp)).trans c12, sc_same c13, (sc_other (by simp)).trans c14⟩, fun i hi => by rw [World.frozen?_setCell]; exact hf i hi, hz⟩
theorem Box15.set_prov {cb : Nat} {q : Pk} {W : World} (h : Box15 cb q W) (A : Option Addr) (c : Nat) (l : List Dp) : Box15 cb { q with provA := A, provC := c, prov := l } (W.setCell ⟨cb, 6, none⟩ (.slice A l.length c)) := by
  obtain ⟨⟨hl, c0, c1, c2, c3, c4, c5, c6, c7, c8, c9, c10, c11, c12, c13, c14⟩, hf, _⟩ := h
  have hz : cb < (W.setCell ⟨cb, 6, none⟩ (.slice A l.length c)).heap.size := by simpa [World.setCell] using hl
  exact ⟨⟨hz, (sc_other (by simp)).trans c0, (sc_other (by simp)).trans c1, (sc_other (by simp)).trans c2, (sc_other (by simp)).trans c3, (sc_other (by simp)).trans c4, (sc_other (by simp)).trans c5, sc_same c6, (sc_other (by simp)).trans c7, (sc_other (by simp)).trans c8, (sc_other (by simp)).trans c9, (sc_other (by simp)).trans c10, (sc_other (by simp)).trans c11, (sc_other (by simp)).trans c12, (sc_other (by simp)).trans c13, (sc_other (by simp)).trans c14⟩, fun i hi => by rw [World.frozen?_setCell]; exact hf i hi, hz⟩
theorem Box15.set_obs {cb : Nat} {q : Pk} {W : World} (h : Box15 cb q W) (A : Option Addr) (c : Nat) (l : List Dp) : Box15 cb { q with obsA := A, obsC := c, obs := l } (W.setCell ⟨cb, 9, none⟩ (.slice A l.length c)) := by
  obtain ⟨⟨hl, c0, c1, c2, c3, c4, c5, c6, c7, c8, c9, c10, c11, c12, c13, c14⟩, hf, _⟩ := h
  have hz : cb < (W.setCell ⟨cb, 9, none⟩ (.slice A l.length c)).heap.size := by simpa [World.setCell] using hl
  exact ⟨⟨hz, (sc_other (by simp)).trans c0, (sc_other (by simp)).trans c1, (sc_other (by simp)).trans c2, (sc_other (by simp)).trans c3, (sc_other (by simp)).trans c4, (sc_other (by simp)).trans c5, (sc_other (by simp)).trans c6, (sc_other (by simp)).trans c7, (sc_other (by simp)).trans c8, sc_same c9, (sc_other (by simp)).trans c10, (sc_other (by simp)).trans c11, (sc_other (by simp)).trans c12, (sc_other (by simp)).trans c13, (sc_other (by simp)).trans c14⟩, fun i hi => by rw [World.frozen?_setCell]; exact hf i hi, hz⟩
theorem Box15.set_files {cb : Nat} {q : Pk} {W : World} (h : Box15 cb q W) (A : Option Addr) (c : Nat) (l : List ByteArray) : Box15 cb { q with filesA := A, filesC := c, files := l } (W.setCell ⟨cb, 14, none⟩ (.slice A l.length c)) := by
  obtain ⟨⟨hl, c0, c1, c2, c3, c4, c5, c6, c7, c8, c9, c10, c11, c12, c13, c14⟩, hf, _⟩ := h
  have hz : cb < (W.setCell ⟨cb, 14, none⟩ (.slice A l.length c)).heap.size := by simpa [World.setCell] using hl
  exact ⟨⟨hz, (sc_other (by simp)).trans c0, (sc_other (by simp)).trans c1, (sc_other (by simp)).trans c2, (sc_other (by simp)).trans c3, (sc_other (by simp)).trans c4, (sc_other (by simp)).trans c5, (sc_other (by simp)).trans c6, (sc_other (by simp)).trans c7, (sc_other (by simp)).trans c8, (sc_other (by simp)).trans c9, (sc_other (by simp)).trans c10, (sc_other (by simp)).trans c11, (sc_other (by simp)).trans c12, (sc_other (by simp)).trans c13, sc_same c14⟩, fun i hi => by rw [World.frozen?_setCell]; exact hf i hi, hz⟩
section
variable {α : Type} {enc : α → List Value} {size cb : Nat} {A : Option Addr} {c : Nat} {l : List α} {W W' : World}
end
end Go.Proofs.YtcpjignlhlcnpaaDoor
