/- StPlain, StCoAt -/
import Derived.Test.YteobmfpbgnmffaaGreatDoorStepsNamesRowG05
import Derived.Test.YteobmfpbgnmffaaGreatDoorStepsNamesRowG37
set_option linter.unusedSimpArgs false
set_option linter.unusedVariables false
namespace Go.Proofs.YteobmfpbgnmffaaGreatDoor
section
/- Plain law: what comes and goes from what is installed to a state, over whatever packages. -/


set_option linter.unusedVariables false
namespace St

def inS (S : List Int) (n : Nat) : Bool := S.any fun z => z == (n : Int)
section
variable (I : Nat) (nm ob : Nat → Nat → Bool) (cmp : Nat → Nat → Int) (S : List Int)
/-- the greatest of those that go and have its name: the first one, where some are the same -/
def bestStep (n : Nat) (b : Option Nat) (i : Nat) : Option Nat := if nm i n && (match b with | none => true | some j => decide (0 < cmp i j)) then some i else b
def bestOf (n : Nat) (l : List Nat) (b : Option Nat) : Option Nat := l.foldl (bestStep nm cmp n) b
end
section
variable {I N : Nat} {nm ob : Nat → Nat → Bool} {cmp : Nat → Nat → Int} {S : List Int}
end
end St
end
section
/- Where comes stands: its boxes. -/



open Go.RowKit Go.Shelf
set_option linter.unusedVariables false

/-- how the EVRs of two numbers' packages compare -/
def cmpI2 (L : List Pr) (i j : Nat) : Int := match L[i]?, L[j]? with | some x, some y => ecmp x.pk.evr y.pk.evr | _, _ => 0
theorem cmp_alike {P : Nat} {I : Int} {L : List Pr} {w : World} (hp : Pool P I L w) {i j : Nat} (hi : i < L.length) (hj : j < L.length) {p r : Pk} (h1 : Alike L[i].pk p) (h2 : Alike L[j].pk r) (W : World) :
    Calls Tryz.prog 132 #[.agg #[.int .i64 p.epoch, .string p.ver, .string p.rel], .agg #[.int .i64 r.epoch, .string r.ver, .string r.rel]] W fun e w' => e = .returned (.int .i64 (cmpI2 L i j)) ∧ Below W.heap.size W w' := by
  have s1 := small_of_may (hp.may L[i] (List.getElem_mem hi)).1
  have s2 := small_of_may (hp.may L[j] (List.getElem_mem hj)).1
  have v1 := s1.ver; have v2 := s1.rel; have v3 := s2.ver; have v4 := s2.rel
  rw [← h1.ver] at v1; rw [← h1.rel] at v2; rw [← h2.ver] at v3; rw [← h2.rel] at v4
  have h := evr_any p.evr r.evr W (by unfold Pk.evr; rw [size_toList]; omega) (by unfold Pk.evr; rw [size_toList]; omega) (by unfold Pk.evr; rw [size_toList]; omega) (by unfold Pk.evr; rw [size_toList]; omega)
  unfold Evr.val Pk.evr at h
  dsimp only at h
  rw [bs_of, bs_of, bs_of, bs_of] at h
  have e : cmpI2 L i j = ecmp p.evr r.evr := by unfold cmpI2; rw [List.getElem?_eq_getElem hi, List.getElem?_eq_getElem hj, h1.evr, h2.evr]
  rw [e]
  exact h
/-- the best so far -/
def BestIs (L : List Pr) (b : Option Nat) (bv : Value) (W : World) : Prop := match b with
  | none => bv = .slice none 0 0
  | some j => ∃ (hj : j < L.length) (r : Pk) (h : Nat), Alike L[j].pk r ∧ bv = .slice (some ⟨h, 0, none⟩) 1 1 ∧ W.cell? ⟨h, 0, none⟩ = some (.int .i64 r.epoch) ∧ W.cell? ⟨h, 1, none⟩ = some (.string r.ver) ∧ W.cell? ⟨h, 2, none⟩ = some (.string r.rel)
theorem BestIs.keep {L : List Pr} {b : Option Nat} {bv : Value} {W W' : World} (h : BestIs L b bv W) (hc : ∀ (g i : Nat) v, (∃ c n, bv = .slice (some ⟨g, 0, none⟩) c n) → W.cell? ⟨g, i, none⟩ = some v → W'.cell? ⟨g, i, none⟩ = some v) : BestIs L b bv W' := by
  cases b with
  | none => exact h
  | some j =>
    obtain ⟨hj, r, g, ha, e, h0, h1, h2⟩ := h
    exact ⟨hj, r, g, ha, e, hc g 0 _ ⟨_, _, e⟩ h0, hc g 1 _ ⟨_, _, e⟩ h1, hc g 2 _ ⟨_, _, e⟩ h2⟩
structure CoAt (L : List Pr) (w : World) (cb k g kb : Nat) (q : Pk) (b : Option Nat) (ov : Bool) (W : World) : Prop where
  old : Below w.heap.size w W
  c2 : W.cell? ⟨w.heap.size, 0, none⟩ = some (.pointer (some ⟨cb, 0, none⟩))
  k3 : W.cell? ⟨w.heap.size + 1, 0, none⟩ = some (.int .i64 (k : Int))
  x0 : W.cell? ⟨g, 0, none⟩ = some (.string q.name)
  x1 : W.cell? ⟨g, 1, none⟩ = some (.int .i64 q.epoch)
  x2 : W.cell? ⟨g, 2, none⟩ = some (.string q.ver)
  x3 : W.cell? ⟨g, 3, none⟩ = some (.string q.rel)
  bc : ∃ bv, W.cell? ⟨kb, 0, none⟩ = some bv ∧ BestIs L b bv W ∧ ∀ h c n, bv = .slice (some ⟨h, 0, none⟩) c n → h ≠ kb ∧ h ≠ kb + 1
  bf : W.frozen? ⟨kb, 0, none⟩ = false
  oc : W.cell? ⟨kb + 1, 0, none⟩ = some (.bool ov)
  of : W.frozen? ⟨kb + 1, 0, none⟩ = false
  hz : w.heap.size + 2 ≤ g ∧ g < kb ∧ kb + 2 ≤ W.heap.size
section
variable {L : List Pr} {w W W' : World} {cb k g kb : Nat} {q : Pk} {b : Option Nat} {ov : Bool}
theorem CoAt.keep (h : CoAt L w cb k g kb q b ov W) (ho : Below w.heap.size w W') (hs : W.heap.size ≤ W'.heap.size) (hc : ∀ (a : Addr) v, W.cell? a = some v → W'.cell? a = some v) (hf : ∀ (a : Addr) v, W.cell? a = some v → W'.frozen? a = W.frozen? a) : CoAt L w cb k g kb q b ov W' := by
  obtain ⟨bv, b1, b2, b3⟩ := h.bc
  exact ⟨ho, hc _ _ h.c2, hc _ _ h.k3, hc _ _ h.x0, hc _ _ h.x1, hc _ _ h.x2, hc _ _ h.x3, ⟨bv, hc _ _ b1, b2.keep fun g i v _ hv => hc _ _ hv, b3⟩, (hf _ _ b1).trans h.bf, hc _ _ h.oc, (hf _ _ h.oc).trans h.of, h.hz.1, h.hz.2.1, Nat.le_trans h.hz.2.2 hs⟩
theorem CoAt.then (h : CoAt L w cb k g kb q b ov W) (hb : Below W.heap.size W W') : CoAt L w cb k g kb q b ov W' :=
  h.keep (h.old.trans (hb.mono h.old.size)) hb.size (fun a v hv => (hb.cell (World.block_lt_of_cell? W _ hv)).trans hv) (fun a v hv => hb.frozen (World.block_lt_of_cell? W _ hv))
theorem CoAt.own {β : Type} {B : Nat} (hB : w.heap.size ≤ B) (f : β → Option Nat) (o : β → Bool) : OwnFrom B (fun (s : β) W => CoAt L w cb k g kb q (f s) (o s) W) := fun s A C row hs hg hr =>
  hs.keep (hs.old.grown hg hs.old.size (fun j e => Nat.le_trans hB (hr j e).1)) hg.size (fun a v hv => cell_kept hv hg fun r e => (hr r e).2) (fun a v hv => frozen_kept hv hg fun r e => (hr r e).2)
theorem CoAt.setO (h : CoAt L w cb k g kb q b ov W) (o' : Bool) : CoAt L w cb k g kb q b o' (W.setCell ⟨kb + 1, 0, none⟩ (.bool o')) := by
  obtain ⟨z1, z2, z3⟩ := h.hz
  obtain ⟨bv, b1, b2, b3⟩ := h.bc
  have ne : ∀ g i, g ≠ kb + 1 → (⟨kb + 1, 0, none⟩ : Addr) ≠ ⟨g, i, none⟩ := fun g i hg e => by simp only [Addr.mk.injEq] at e; exact hg e.1.symm
  exact ⟨h.old.setCell (p := ⟨kb + 1, 0, none⟩) (by show w.heap.size ≤ kb + 1; omega) _, (sc_other (ne _ _ (by omega))).trans h.c2, (sc_other (ne _ _ (by omega))).trans h.k3, (sc_other (ne _ _ (by omega))).trans h.x0, (sc_other (ne _ _ (by omega))).trans h.x1, (sc_other (ne _ _ (by omega))).trans h.x2, (sc_other (ne _ _ (by omega))).trans h.x3,
    ⟨bv, (sc_other (ne _ _ (by omega))).trans b1, b2.keep fun g i v ⟨c, n, e⟩ hv => (sc_other (ne _ _ (b3 _ _ _ e).2)).trans hv, b3⟩, (World.frozen?_setCell _ _ _ _).trans h.bf, sc_same h.oc, (World.frozen?_setCell _ _ _ _).trans h.of, z1, z2, by simpa [World.setCell] using z3⟩
theorem CoAt.better (h : CoAt L w cb k g kb q b ov W) {j : Nat} (hj : j < L.length) {r : Pk} (ha : Alike L[j].pk r) (t : TypeId) : CoAt L w cb k g kb q (some j) ov ((W.alloc (.cells #[.int .i64 r.epoch, .string r.ver, .string r.rel] t)).setCell ⟨kb, 0, none⟩ (.slice (some ⟨W.heap.size, 0, none⟩) 1 1)) := by
  have h2 := h.then ((Below.refl _ W).alloc (Nat.le_refl _) (.cells #[.int .i64 r.epoch, .string r.ver, .string r.rel] t))
  obtain ⟨z1, z2, z3⟩ := h.hz
  obtain ⟨y1, y2, y3⟩ := h2.hz
  obtain ⟨bv, b1, b2, b3⟩ := h2.bc
  have ne : ∀ g i, g ≠ kb → (⟨kb, 0, none⟩ : Addr) ≠ ⟨g, i, none⟩ := fun g i hg e => by simp only [Addr.mk.injEq] at e; exact hg e.1.symm
  exact ⟨h2.old.setCell (p := ⟨kb, 0, none⟩) (by show w.heap.size ≤ kb; omega) _, (sc_other (ne _ _ (by omega))).trans h2.c2, (sc_other (ne _ _ (by omega))).trans h2.k3, (sc_other (ne _ _ (by omega))).trans h2.x0, (sc_other (ne _ _ (by omega))).trans h2.x1, (sc_other (ne _ _ (by omega))).trans h2.x2, (sc_other (ne _ _ (by omega))).trans h2.x3,
    ⟨_, sc_same b1, ⟨hj, r, W.heap.size, ha, rfl, (sc_other (ne _ _ (by omega))).trans (by simp [go_sem]), (sc_other (ne _ _ (by omega))).trans (by simp [go_sem]), (sc_other (ne _ _ (by omega))).trans (by simp [go_sem])⟩, fun h c n e => by cases e; omega⟩, (World.frozen?_setCell _ _ _ _).trans h2.bf, (sc_other (ne _ _ (by omega))).trans h2.oc, (World.frozen?_setCell _ _ _ _).trans h2.of, y1, y2, by simpa [World.setCell] using y3⟩
theorem CoAt.start {V : World} (hb : Below w.heap.size w W) (hz : V.heap.size = w.heap.size + 2) (hv : Below V.heap.size V W) (h2 : V.cell? ⟨w.heap.size, 0, none⟩ = some (.pointer (some ⟨cb, 0, none⟩))) (h3 : V.cell? ⟨w.heap.size + 1, 0, none⟩ = some (.int .i64 (k : Int))) (hg : w.heap.size + 2 ≤ g) (hx : Box15 g q W) (t u : TypeId) :
    CoAt L w cb k g W.heap.size q none false ((W.alloc (.cells #[.slice none 0 0] t)).alloc (.cells #[.bool false] u)) := by
  have hsz := hv.size
  have hgl := hx.2.2
  have B := ((Below.refl W.heap.size W).alloc (Nat.le_refl _) (.cells #[.slice none 0 0] t)).alloc (by simp) (.cells #[.bool false] u)
  have hv2 := (hv.alloc hsz (.cells #[.slice none 0 0] t)).alloc (by simp; omega) (.cells #[.bool false] u)
  exact ⟨(hb.alloc hb.size _).alloc (by have := hb.size; simp; omega) _, (hv2.cell (p := ⟨w.heap.size, 0, none⟩) (by show w.heap.size < V.heap.size; omega)).trans h2, (hv2.cell (p := ⟨w.heap.size + 1, 0, none⟩) (by show w.heap.size + 1 < V.heap.size; omega)).trans h3, (B.cell (p := ⟨g, 0, none⟩) hgl).trans hx.1.2.1, (B.cell (p := ⟨g, 1, none⟩) hgl).trans hx.1.2.2.1, (B.cell (p := ⟨g, 2, none⟩) hgl).trans hx.1.2.2.2.1, (B.cell (p := ⟨g, 3, none⟩) hgl).trans hx.1.2.2.2.2.1,
    ⟨.slice none 0 0, by simp [go_sem], rfl, fun h c n e => by cases e⟩, by simp [go_sem], by simp [go_sem], by simp [go_sem], hg, by omega, by simp⟩
end
end
end Go.Proofs.YteobmfpbgnmffaaGreatDoor
