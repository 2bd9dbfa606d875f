/- StGoAt -/
import Derived.Test.YteobmfpbgnmffaaGreatDoorStepsNamesRowG35
set_option linter.unusedSimpArgs false
set_option linter.unusedVariables false
/- Where goes stands: its boxes. -/


namespace Go.Proofs.YteobmfpbgnmffaaGreatDoor
open Go.RowKit Go.Shelf
set_option linter.unusedVariables false

structure GoAt (w : World) (cb k g kb hz : Nat) (q : Pk) (r kd : Int) (W : World) : Prop where
  old : Below w.heap.size w W
  c2 : W.cell? ⟨w.heap.size, 0, none⟩ = some (.pointer (some ⟨cb, 0, none⟩))
  k3 : W.cell? ⟨w.heap.size + 1, 0, none⟩ = some (.int .i64 (k : Int))
  r4 : W.cell? ⟨w.heap.size + 1 + 1, 0, none⟩ = some (.int .u8 r)
  rf : W.frozen? ⟨w.heap.size + 1 + 1, 0, none⟩ = false
  k7 : W.cell? ⟨kb, 0, none⟩ = some (.int .u8 kd)
  kf : W.frozen? ⟨kb, 0, none⟩ = false
  nm : W.cell? ⟨g, 0, none⟩ = some (.string q.name)
  hz : w.heap.size + 3 ≤ hz ∧ g < hz ∧ kb < hz ∧ w.heap.size + 3 ≤ g ∧ w.heap.size + 3 ≤ kb ∧ g ≠ kb ∧ hz ≤ W.heap.size
theorem GoAt.past {w W W' : World} {cb k g kb hz : Nat} {q : Pk} {r kd : Int} (h : GoAt w cb k g kb hz q r kd W) (hb : Below hz W W') : GoAt w cb k g kb hz q r kd W' := by
  obtain ⟨z1, z2, z3, z4, z5, z6, z7⟩ := h.hz
  exact ⟨h.old.trans (hb.mono (by omega)), (hb.cell (p := ⟨w.heap.size, 0, none⟩) (by show w.heap.size < hz; omega)).trans h.c2, (hb.cell (p := ⟨w.heap.size + 1, 0, none⟩) (by show w.heap.size + 1 < hz; omega)).trans h.k3, (hb.cell (p := ⟨w.heap.size + 1 + 1, 0, none⟩) (by show w.heap.size + 1 + 1 < hz; omega)).trans h.r4, (hb.frozen (p := ⟨w.heap.size + 1 + 1, 0, none⟩) (by show w.heap.size + 1 + 1 < hz; omega)).trans h.rf, (hb.cell (p := ⟨kb, 0, none⟩) z3).trans h.k7, (hb.frozen (p := ⟨kb, 0, none⟩) z3).trans h.kf, (hb.cell (p := ⟨g, 0, none⟩) z2).trans h.nm, z1, z2, z3, z4, z5, z6, Nat.le_trans z7 hb.size⟩
theorem GoAt.setR {w W : World} {cb k g kb hz : Nat} {q : Pk} {r kd : Int} (h : GoAt w cb k g kb hz q r kd W) (r' : Int) : GoAt w cb k g kb hz q r' kd (W.setCell ⟨w.heap.size + 1 + 1, 0, none⟩ (.int .u8 r')) := by
  obtain ⟨z1, z2, z3, z4, z5, z6, z7⟩ := h.hz
  have ne : ∀ b, b ≠ w.heap.size + 1 + 1 → (⟨w.heap.size + 1 + 1, 0, none⟩ : Addr) ≠ ⟨b, 0, none⟩ := fun b hb e => by simp only [Addr.mk.injEq] at e; exact hb e.1.symm
  exact ⟨h.old.setCell (p := ⟨w.heap.size + 1 + 1, 0, none⟩) (by show w.heap.size ≤ w.heap.size + 1 + 1; omega) _, (sc_other (ne _ (by omega))).trans h.c2, (sc_other (ne _ (by omega))).trans h.k3, sc_same h.r4, (World.frozen?_setCell _ _ _ _).trans h.rf, (sc_other (ne _ (by omega))).trans h.k7, (World.frozen?_setCell _ _ _ _).trans h.kf, (sc_other (ne _ (by omega))).trans h.nm, z1, z2, z3, z4, z5, z6, by simpa [World.setCell] using z7⟩
theorem GoAt.setK {w W : World} {cb k g kb hz : Nat} {q : Pk} {r kd : Int} (h : GoAt w cb k g kb hz q r kd W) (k' : Int) : GoAt w cb k g kb hz q r k' (W.setCell ⟨kb, 0, none⟩ (.int .u8 k')) := by
  obtain ⟨z1, z2, z3, z4, z5, z6, z7⟩ := h.hz
  have ne : ∀ b, b ≠ kb → (⟨kb, 0, none⟩ : Addr) ≠ ⟨b, 0, none⟩ := fun b hb e => by simp only [Addr.mk.injEq] at e; exact hb e.1.symm
  exact ⟨h.old.setCell (p := ⟨kb, 0, none⟩) (by show w.heap.size ≤ kb; omega) _, (sc_other (ne _ (by omega))).trans h.c2, (sc_other (ne _ (by omega))).trans h.k3, (sc_other (ne _ (by omega))).trans h.r4, (World.frozen?_setCell _ _ _ _).trans h.rf, sc_same h.k7, (World.frozen?_setCell _ _ _ _).trans h.kf, (sc_other (ne _ z6)).trans h.nm, z1, z2, z3, z4, z5, z6, by simpa [World.setCell] using z7⟩
theorem GoAt.own {β : Type} {w : World} {cb k g kb hz B : Nat} {q : Pk} {r kd : Int} (hB : hz ≤ B) : OwnFrom B (fun (_ : β) W => GoAt w cb k g kb hz q r kd W) := fun s A C row hs hg hr =>
  hs.past ((Below.refl hz A).grown hg hs.hz.2.2.2.2.2.2 (fun j e => Nat.le_trans hB (hr j e).1))
theorem GoAt.start {w V W : World} {cb k g : Nat} {q : Pk} (hb : Below w.heap.size w W) (hz : V.heap.size = w.heap.size + 3) (hv : Below V.heap.size V W) (h2 : V.cell? ⟨w.heap.size, 0, none⟩ = some (.pointer (some ⟨cb, 0, none⟩))) (h3 : V.cell? ⟨w.heap.size + 1, 0, none⟩ = some (.int .i64 (k : Int))) (h4 : V.cell? ⟨w.heap.size + 1 + 1, 0, none⟩ = some (.int .u8 0) ∧ V.frozen? ⟨w.heap.size + 1 + 1, 0, none⟩ = false) (hg : w.heap.size + 3 ≤ g) (hx : Box15 g q W) :
    GoAt w cb k g W.heap.size (W.heap.size + 1) q 0 6 (W.alloc (.cells #[.int .u8 6] 5)) := by
  have hsz := hv.size
  have hgl := hx.2.2
  have B := (Below.refl W.heap.size W).alloc (Nat.le_refl _) (.cells #[.int .u8 6] 5)
  have hv2 := hv.alloc hsz (.cells #[.int .u8 6] 5)
  exact ⟨hb.alloc hb.size _, (hv2.cell (p := ⟨w.heap.size, 0, none⟩) (by show w.heap.size < V.heap.size; omega)).trans h2, (hv2.cell (p := ⟨w.heap.size + 1, 0, none⟩) (by show w.heap.size + 1 < V.heap.size; omega)).trans h3, (hv2.cell (p := ⟨w.heap.size + 1 + 1, 0, none⟩) (by show w.heap.size + 1 + 1 < V.heap.size; omega)).trans h4.1, (hv2.frozen (p := ⟨w.heap.size + 1 + 1, 0, none⟩) (by show w.heap.size + 1 + 1 < V.heap.size; omega)).trans h4.2, by simp [go_sem], by simp [go_sem], (B.cell (p := ⟨g, 0, none⟩) hgl).trans hx.1.2.1, by omega, by omega, by omega, hg, by omega, by omega, by simp⟩
end Go.Proofs.YteobmfpbgnmffaaGreatDoor
