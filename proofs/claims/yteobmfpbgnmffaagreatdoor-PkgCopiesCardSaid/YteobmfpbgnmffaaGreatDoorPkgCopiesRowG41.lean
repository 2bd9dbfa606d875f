/- PkCopM -/
import Derived.Test.YteobmfpbgnmffaaGreatDoorPkgCopiesRowG39
import Derived.Test.YteobmfpbgnmffaaGreatDoorPkgCopiesRowG40
import Derived.Test.YteobmfpbgnmffaaGreatDoorPkgCopiesRowG26
set_option linter.unusedSimpArgs false
set_option linter.unusedVariables false
/- PkgCopies: what stays while kinds and names of the copies are written over. -/



namespace Go.Proofs.YteobmfpbgnmffaaGreatDoor
open Go.RowKit Go.Shelf
set_option linter.unusedVariables false

/-- of W1's cells only kinds and texts are written over, in blocks from NB on -/
structure KD (NB : Nat) (W1 W : World) : Prop where
  low : Below NB W1 W
  hd : ∀ p a n k, W1.cell? p = some (.slice a n k) → W.cell? p = some (.slice a n k)
  u8 : ∀ p x, W1.cell? p = some (.int .u8 x) → ∃ y, W.cell? p = some (.int .u8 y)
  st : ∀ p x, W1.cell? p = some (.string x) → ∃ y, W.cell? p = some (.string y)
  fz : ∀ p, W.frozen? p = W1.frozen? p
theorem KD.refl (NB : Nat) (W : World) : KD NB W W := ⟨Below.refl _ _, fun _ _ _ _ h => h, fun _ x h => ⟨x, h⟩, fun _ x h => ⟨x, h⟩, fun _ => rfl⟩
theorem KD.setU8 {NB : Nat} {W1 W : World} {b o : Nat} {x : Int} (h : KD NB W1 W) (hb : NB ≤ b) (hc : W.cell? ⟨b, o, none⟩ = some (.int .u8 x)) (y : Int) : KD NB W1 (W.setCell ⟨b, o, none⟩ (.int .u8 y)) := by
  refine ⟨h.low.setCell (p := ⟨b, o, none⟩) hb _, fun p a n k hp => ?_, fun p z hp => ?_, fun p z hp => ?_, fun p => (World.frozen?_setCell _ _ _ _).trans (h.fz p)⟩
  · have h2 := h.hd p a n k hp
    by_cases e : (⟨b, o, none⟩ : Addr) = p
    · subst e; rw [hc] at h2; cases h2
    · exact (sc_other e).trans h2
  · obtain ⟨z2, h2⟩ := h.u8 p z hp
    by_cases e : (⟨b, o, none⟩ : Addr) = p
    · subst e; exact ⟨y, sc_same h2⟩
    · exact ⟨z2, (sc_other e).trans h2⟩
  · obtain ⟨z2, h2⟩ := h.st p z hp
    by_cases e : (⟨b, o, none⟩ : Addr) = p
    · subst e; rw [hc] at h2; cases h2
    · exact ⟨z2, (sc_other e).trans h2⟩
theorem KD.setStr {NB : Nat} {W1 W : World} {b o : Nat} {x : ByteArray} (h : KD NB W1 W) (hb : NB ≤ b) (hc : W.cell? ⟨b, o, none⟩ = some (.string x)) (y : ByteArray) : KD NB W1 (W.setCell ⟨b, o, none⟩ (.string y)) := by
  refine ⟨h.low.setCell (p := ⟨b, o, none⟩) hb _, fun p a n k hp => ?_, fun p z hp => ?_, fun p z hp => ?_, fun p => (World.frozen?_setCell _ _ _ _).trans (h.fz p)⟩
  · have h2 := h.hd p a n k hp
    by_cases e : (⟨b, o, none⟩ : Addr) = p
    · subst e; rw [hc] at h2; cases h2
    · exact (sc_other e).trans h2
  · obtain ⟨z2, h2⟩ := h.u8 p z hp
    by_cases e : (⟨b, o, none⟩ : Addr) = p
    · subst e; rw [hc] at h2; cases h2
    · exact ⟨z2, (sc_other e).trans h2⟩
  · obtain ⟨z2, h2⟩ := h.st p z hp
    by_cases e : (⟨b, o, none⟩ : Addr) = p
    · subst e; exact ⟨y, sc_same h2⟩
    · exact ⟨z2, (sc_other e).trans h2⟩
/-- a row of rich dependencies whose kinds, and whose Args' kinds, may be written over -/
def WRow (NB : Nat) (W : World) (A : Option Addr) (n : Nat) : Prop := n ≤ 1000000 ∧ ∀ i, i < n → ∃ b o, A = some ⟨b, o, none⟩ ∧ NB ≤ b ∧ W.frozen? ⟨b, o + i * 7, none⟩ = false ∧ (∃ x, W.cell? ⟨b, o + i * 7, none⟩ = some (.int .u8 x)) ∧
  ∃ a m k, W.cell? ⟨b, o + i * 7 + 6, none⟩ = some (.slice a m k) ∧ m ≤ 1000000 ∧ ∀ j, j < m → ∃ b' o', a = some ⟨b', o', none⟩ ∧ NB ≤ b' ∧ W.frozen? ⟨b', o' + j * 7, none⟩ = false ∧ ∃ x, W.cell? ⟨b', o' + j * 7, none⟩ = some (.int .u8 x)
theorem WRow.of {NB base : Nat} {W : World} {l : List RV} {A : Option Addr} {c : Nat} (h : ROwnF base l (.slice A l.length c) W) (hb : NB ≤ base) (hp : ∀ t ∈ l, t.tree.parts ≤ 900000) (hl : l.length ≤ 1000000) : WRow NB W A l.length := by
  refine ⟨hl, fun i hi => ?_⟩
  obtain ⟨A', c', e, hr⟩ := h.own.rd encR_len
  cases e
  obtain ⟨b, o, rfl, hlt, hc⟩ := hr.2.2 i hi
  have hbl := (World.ownsRow.lt h.own b rfl).1
  have ht := h.tr _ (List.getElem_mem hi)
  refine ⟨b, o, rfl, Nat.le_trans hb hbl, own_FZ h.own rfl _, ⟨_, hc 0 _ rfl⟩, l[i].addr, l[i].args.length, l[i].cap, hc 6 _ rfl, ?_, fun j hj => ?_⟩
  · have h1 := hp _ (List.getElem_mem hi)
    rw [tree_parts l[i], RT.parts] at h1
    have h2 := partsL_len (treeL l[i].args)
    rw [treeL_len] at h2
    omega
  · unfold TQF at ht
    cases ht with
    | mk h1 h2 h3 h4 h5 =>
      obtain ⟨b', o', e, q, hc'⟩ := h4 j hj
      exact ⟨b', o', e, Nat.le_trans hb q.1.1, q.2 _, _, hc' 0 _ rfl⟩
/-- a row whose elements' first cells, texts, may be written over -/
def WStr (NB : Nat) (W : World) (sz : Nat) (A : Option Addr) (n : Nat) : Prop := n ≤ 1000000 ∧ ∀ i, i < n → ∃ b o, A = some ⟨b, o, none⟩ ∧ NB ≤ b ∧ W.frozen? ⟨b, o + i * sz, none⟩ = false ∧ ∃ x, W.cell? ⟨b, o + i * sz, none⟩ = some (.string x)
theorem WStr.of {α : Type} {enc : α → List Value} {NB base sz : Nat} {e : TypeId} {W : World} {l : List α} {A : Option Addr} {c : Nat} (h : Own enc sz base e (.slice A l.length c) l W) (he : ∀ x, (enc x).length = sz) (h0 : ∀ x, ∃ s, (enc x)[0]? = some (.string s)) (hb : NB ≤ base) (hl : l.length ≤ 1000000) : WStr NB W sz A l.length := by
  refine ⟨hl, fun i hi => ?_⟩
  obtain ⟨A', c', e2, hr⟩ := h.rd he
  cases e2
  obtain ⟨b, o, rfl, hlt, hc⟩ := hr.2.2 i hi
  obtain ⟨s, hs⟩ := h0 l[i]
  exact ⟨b, o, rfl, Nat.le_trans hb (World.ownsRow.lt h b rfl).1, own_FZ h rfl _, s, hc 0 _ hs⟩
theorem PkOwnF.own {base : Nat} {q : Pk} {W : World} (h : PkOwnF base q W) : PkOwn base q W :=
  ⟨h.prov, h.obs, h.files, ⟨h.req.own, fun a ha => (h.req.tr a ha).tq⟩, ⟨h.con.own, fun a ha => (h.con.tr a ha).tq⟩, ⟨h.rcm.own, fun a ha => (h.rcm.tr a ha).tq⟩, ⟨h.sup.own, fun a ha => (h.sup.tr a ha).tq⟩, ⟨h.sug.own, fun a ha => (h.sug.tr a ha).tq⟩, ⟨h.enh.own, fun a ha => (h.enh.tr a ha).tq⟩⟩
theorem ROwnF.row {base : Nat} {l : List RV} {A : Option Addr} {c : Nat} {W : World} (h : ROwnF base l (.slice A l.length c) W) : RRow W.heap.size W A c l := by
  obtain ⟨A', c', e, hr⟩ := h.own.rd encR_len
  cases e
  exact ⟨hr, fun t ht => (h.tr t ht).rtree (fun b hb => hb.2.1)⟩
theorem alike_parts {p q : Pk} (ha : Alike p q) (hs : ∀ k, k < 6 → partsL (treeL (sixL p k)) ≤ 2000) : ∀ k, k < 6 → partsL (treeL (sixL q k)) ≤ 2000 := by
  intro k hk
  have h := hs k hk
  obtain rfl | rfl | rfl | rfl | rfl | rfl : k = 0 ∨ k = 1 ∨ k = 2 ∨ k = 3 ∨ k = 4 ∨ k = 5 := by omega
  · show partsL (treeL q.req) ≤ 2000; rw [ha.req]; exact h
  · show partsL (treeL q.con) ≤ 2000; rw [ha.con]; exact h
  · show partsL (treeL q.rcm) ≤ 2000; rw [ha.rcm]; exact h
  · show partsL (treeL q.sup) ≤ 2000; rw [ha.sup]; exact h
  · show partsL (treeL q.sug) ≤ 2000; rw [ha.sug]; exact h
  · show partsL (treeL q.enh) ≤ 2000; rw [ha.enh]; exact h
theorem allT_parts {p : Pk} (hs : ∀ k, k < 6 → partsL (treeL (sixL p k)) ≤ 2000) : partsL (allT p) ≤ 12000 := by
  have h0 : partsL (treeL p.req) ≤ 2000 := hs 0 (by omega)
  have h1 : partsL (treeL p.con) ≤ 2000 := hs 1 (by omega)
  have h2 : partsL (treeL p.rcm) ≤ 2000 := hs 2 (by omega)
  have h3 : partsL (treeL p.sup) ≤ 2000 := hs 3 (by omega)
  have h4 : partsL (treeL p.sug) ≤ 2000 := hs 4 (by omega)
  have h5 : partsL (treeL p.enh) ≤ 2000 := hs 5 (by omega)
  unfold allT
  simp only [partsL_app]
  omega
end Go.Proofs.YteobmfpbgnmffaaGreatDoor
