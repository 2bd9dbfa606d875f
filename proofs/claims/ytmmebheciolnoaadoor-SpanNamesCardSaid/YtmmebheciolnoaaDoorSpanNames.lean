/- SpanNames, walked. -/
import Derived.Test.YtmmebheciolnoaaDoorSpAwake
import Derived.Deep.RegionHeld3
import Derived.Deep.DrawnRows
namespace Go.Proofs.YtmmebheciolnoaaDoor
open Go.RowKit Go.Shelf
set_option linter.unusedVariables false

def opsF (k : Nat) : Int := [1, 2, 3, 4, 6].getD k 0
def lessF (k : Nat) : ByteArray := [⟨#[49, 48, 49, 48, 48]⟩, ⟨#[49, 48, 49, 48, 48]⟩, ⟨#[49, 48, 49, 48, 48]⟩, ⟨#[49, 49, 49, 49, 49]⟩, ⟨#[49, 49, 49, 49, 49]⟩].getD k ⟨#[]⟩
def sameF (k : Nat) : ByteArray := [⟨#[49, 48, 49, 48, 48]⟩, ⟨#[48, 49, 49, 48, 49]⟩, ⟨#[49, 49, 49, 48, 49]⟩, ⟨#[48, 48, 48, 49, 49]⟩, ⟨#[48, 49, 49, 49, 49]⟩].getD k ⟨#[]⟩
def dA (o : Int) : Dp := ⟨[97], o, ⟨0, [49], [49]⟩⟩
def dB (o : Int) : Dp := ⟨[98], o, ⟨0, [50], [49]⟩⟩
theorem table : ∀ i k : Fin 5, (opsF i.val : Int) ≤ 255 ∧ 0 ≤ (opsF i.val : Int) ∧ (lessF i.val).size = 5 ∧ (sameF i.val).size = 5 ∧ meetP (dA (opsF i.val)) (dB (opsF k.val)) = ((lessF i.val).toList.getD k.val 0 == 49) ∧ meetP (dB (opsF k.val)) (dA (opsF i.val)) = ((lessF i.val).toList.getD k.val 0 == 49) ∧ meetP (dA (opsF i.val)) (dA (opsF k.val)) = ((sameF i.val).toList.getD k.val 0 == 49) := by decide +kernel
theorem byte_eq {s : ByteArray} {k : Nat} (h : k < s.size) : (s.toList.getD k 0 == 49) = ((s[k].toNat : Int) == 49) := by
  rw [List.getD_eq_getElem?_getD, List.getElem?_eq_getElem (by rw [size_toList]; exact h), Option.getD_some, toList_get s k h, Bool.eq_iff_iff, beq_iff_eq, beq_iff_eq]
  constructor
  · intro e; rw [e]; rfl
  · intro e; exact UInt8.toNat_inj.1 (by have : (49 : UInt8).toNat = 49 := rfl; omega)
theorem ok1 (v r : Bytes) (hv : v.length ≤ 100) (hr : r.length ≤ 100) (p : Int) : Evr.ok ⟨p, v, r⟩ := ⟨by show v.length ≤ _; omega, by show r.length ≤ _; omega⟩
theorem keep_sn {oi ok : Int} {L M : ByteArray} {g2 g3 i p : Nat} {n : Nat} {w W W' : World} (h : W.cell? ⟨p, 0, none⟩ = some (.string ⟨#[97]⟩) ∧ W.cell? ⟨p, 1, none⟩ = some (.int .u8 oi) ∧ W.cell? ⟨p, 2, none⟩ = some (.int .i64 0) ∧ W.cell? ⟨p, 3, none⟩ = some (.string ⟨#[49]⟩) ∧ W.cell? ⟨p, 4, none⟩ = some (.string ⟨#[49]⟩) ∧ W.cell? ⟨p + 1, 0, none⟩ = some (.string ⟨#[98]⟩) ∧ W.cell? ⟨p + 1, 1, none⟩ = some (.int .u8 ok) ∧ W.cell? ⟨p + 1, 2, none⟩ = some (.int .i64 0) ∧ W.cell? ⟨p + 1, 3, none⟩ = some (.string ⟨#[50]⟩) ∧ W.cell? ⟨p + 1, 4, none⟩ = some (.string ⟨#[49]⟩) ∧ W.cell? ⟨p + 1 + 1, 0, none⟩ = some (.string ⟨#[97]⟩) ∧ W.cell? ⟨p + 1 + 1, 1, none⟩ = some (.int .u8 ok) ∧ W.cell? ⟨p + 1 + 1, 2, none⟩ = some (.int .i64 0) ∧ W.cell? ⟨p + 1 + 1, 3, none⟩ = some (.string ⟨#[49]⟩) ∧ W.cell? ⟨p + 1 + 1, 4, none⟩ = some (.string ⟨#[49]⟩) ∧ p < W.heap.size ∧ p + 1 < W.heap.size ∧ p + 1 + 1 < W.heap.size ∧ W.cell? ⟨g2, i, none⟩ = some (.string L) ∧ W.cell? ⟨g3, i, none⟩ = some (.string M) ∧ g2 < W.heap.size ∧ g3 < W.heap.size ∧ n ≤ p ∧ Below n w W) (hb : Below W.heap.size W W') :
    W'.cell? ⟨p, 0, none⟩ = some (.string ⟨#[97]⟩) ∧ W'.cell? ⟨p, 1, none⟩ = some (.int .u8 oi) ∧ W'.cell? ⟨p, 2, none⟩ = some (.int .i64 0) ∧ W'.cell? ⟨p, 3, none⟩ = some (.string ⟨#[49]⟩) ∧ W'.cell? ⟨p, 4, none⟩ = some (.string ⟨#[49]⟩) ∧ W'.cell? ⟨p + 1, 0, none⟩ = some (.string ⟨#[98]⟩) ∧ W'.cell? ⟨p + 1, 1, none⟩ = some (.int .u8 ok) ∧ W'.cell? ⟨p + 1, 2, none⟩ = some (.int .i64 0) ∧ W'.cell? ⟨p + 1, 3, none⟩ = some (.string ⟨#[50]⟩) ∧ W'.cell? ⟨p + 1, 4, none⟩ = some (.string ⟨#[49]⟩) ∧ W'.cell? ⟨p + 1 + 1, 0, none⟩ = some (.string ⟨#[97]⟩) ∧ W'.cell? ⟨p + 1 + 1, 1, none⟩ = some (.int .u8 ok) ∧ W'.cell? ⟨p + 1 + 1, 2, none⟩ = some (.int .i64 0) ∧ W'.cell? ⟨p + 1 + 1, 3, none⟩ = some (.string ⟨#[49]⟩) ∧ W'.cell? ⟨p + 1 + 1, 4, none⟩ = some (.string ⟨#[49]⟩) ∧ p < W'.heap.size ∧ p + 1 < W'.heap.size ∧ p + 1 + 1 < W'.heap.size ∧ W'.cell? ⟨g2, i, none⟩ = some (.string L) ∧ W'.cell? ⟨g3, i, none⟩ = some (.string M) ∧ g2 < W'.heap.size ∧ g3 < W'.heap.size ∧ n ≤ p ∧ Below n w W' := by
  obtain ⟨c0_0, c0_1, c0_2, c0_3, c0_4, c1_0, c1_1, c1_2, c1_3, c1_4, c2_0, c2_1, c2_2, c2_3, c2_4, l0, l1, l2, x2, x3, y2, y3, lp, hB⟩ := h
  have hB_le : n ≤ W.heap.size := by omega
  exact ⟨(hb.cell (p := ⟨p, 0, none⟩) l0).trans c0_0, (hb.cell (p := ⟨p, 1, none⟩) l0).trans c0_1, (hb.cell (p := ⟨p, 2, none⟩) l0).trans c0_2, (hb.cell (p := ⟨p, 3, none⟩) l0).trans c0_3, (hb.cell (p := ⟨p, 4, none⟩) l0).trans c0_4, (hb.cell (p := ⟨p + 1, 0, none⟩) l1).trans c1_0, (hb.cell (p := ⟨p + 1, 1, none⟩) l1).trans c1_1, (hb.cell (p := ⟨p + 1, 2, none⟩) l1).trans c1_2, (hb.cell (p := ⟨p + 1, 3, none⟩) l1).trans c1_3, (hb.cell (p := ⟨p + 1, 4, none⟩) l1).trans c1_4, (hb.cell (p := ⟨p + 1 + 1, 0, none⟩) l2).trans c2_0, (hb.cell (p := ⟨p + 1 + 1, 1, none⟩) l2).trans c2_1, (hb.cell (p := ⟨p + 1 + 1, 2, none⟩) l2).trans c2_2, (hb.cell (p := ⟨p + 1 + 1, 3, none⟩) l2).trans c2_3, (hb.cell (p := ⟨p + 1 + 1, 4, none⟩) l2).trans c2_4, Nat.lt_of_lt_of_le l0 hb.size, Nat.lt_of_lt_of_le l1 hb.size, Nat.lt_of_lt_of_le l2 hb.size, (hb.cell (p := ⟨g2, i, none⟩) y2).trans x2, (hb.cell (p := ⟨g3, i, none⟩) y3).trans x3, Nat.lt_of_lt_of_le y2 hb.size, Nat.lt_of_lt_of_le y3 hb.size, lp, hB.trans (hb.mono hB_le)⟩
theorem tail_sn {oi ok : Int} {L M : ByteArray} {g2 g3 i p : Nat} {n : Nat} {w W : World} (h : W.cell? ⟨p, 0, none⟩ = some (.string ⟨#[97]⟩) ∧ W.cell? ⟨p, 1, none⟩ = some (.int .u8 oi) ∧ W.cell? ⟨p, 2, none⟩ = some (.int .i64 0) ∧ W.cell? ⟨p, 3, none⟩ = some (.string ⟨#[49]⟩) ∧ W.cell? ⟨p, 4, none⟩ = some (.string ⟨#[49]⟩) ∧ W.cell? ⟨p + 1, 0, none⟩ = some (.string ⟨#[98]⟩) ∧ W.cell? ⟨p + 1, 1, none⟩ = some (.int .u8 ok) ∧ W.cell? ⟨p + 1, 2, none⟩ = some (.int .i64 0) ∧ W.cell? ⟨p + 1, 3, none⟩ = some (.string ⟨#[50]⟩) ∧ W.cell? ⟨p + 1, 4, none⟩ = some (.string ⟨#[49]⟩) ∧ W.cell? ⟨p + 1 + 1, 0, none⟩ = some (.string ⟨#[97]⟩) ∧ W.cell? ⟨p + 1 + 1, 1, none⟩ = some (.int .u8 ok) ∧ W.cell? ⟨p + 1 + 1, 2, none⟩ = some (.int .i64 0) ∧ W.cell? ⟨p + 1 + 1, 3, none⟩ = some (.string ⟨#[49]⟩) ∧ W.cell? ⟨p + 1 + 1, 4, none⟩ = some (.string ⟨#[49]⟩) ∧ p < W.heap.size ∧ p + 1 < W.heap.size ∧ p + 1 + 1 < W.heap.size ∧ W.cell? ⟨g2, i, none⟩ = some (.string L) ∧ W.cell? ⟨g3, i, none⟩ = some (.string M) ∧ g2 < W.heap.size ∧ g3 < W.heap.size ∧ n ≤ p ∧ Below n w W) : Below n w W := h.2.2.2.2.2.2.2.2.2.2.2.2.2.2.2.2.2.2.2.2.2.2.2
theorem new_sn (oi ok : Int) {L M : ByteArray} {g2 g3 i n : Nat} {w W : World} (h2 : W.cell? ⟨g2, i, none⟩ = some (.string L)) (h3 : W.cell? ⟨g3, i, none⟩ = some (.string M)) (l2 : g2 < W.heap.size) (l3 : g3 < W.heap.size) (hB : Below n w W) (hn : n ≤ W.heap.size) : let V := (((W.alloc (.cells #[.string ⟨#[97]⟩, .int .u8 oi, .int .i64 0, .string ⟨#[49]⟩, .string ⟨#[49]⟩] 40)).alloc (.cells #[.string ⟨#[98]⟩, .int .u8 ok, .int .i64 0, .string ⟨#[50]⟩, .string ⟨#[49]⟩] 40)).alloc (.cells #[.string ⟨#[97]⟩, .int .u8 ok, .int .i64 0, .string ⟨#[49]⟩, .string ⟨#[49]⟩] 40)); let p := W.heap.size; V.cell? ⟨p, 0, none⟩ = some (.string ⟨#[97]⟩) ∧ V.cell? ⟨p, 1, none⟩ = some (.int .u8 oi) ∧ V.cell? ⟨p, 2, none⟩ = some (.int .i64 0) ∧ V.cell? ⟨p, 3, none⟩ = some (.string ⟨#[49]⟩) ∧ V.cell? ⟨p, 4, none⟩ = some (.string ⟨#[49]⟩) ∧ V.cell? ⟨p + 1, 0, none⟩ = some (.string ⟨#[98]⟩) ∧ V.cell? ⟨p + 1, 1, none⟩ = some (.int .u8 ok) ∧ V.cell? ⟨p + 1, 2, none⟩ = some (.int .i64 0) ∧ V.cell? ⟨p + 1, 3, none⟩ = some (.string ⟨#[50]⟩) ∧ V.cell? ⟨p + 1, 4, none⟩ = some (.string ⟨#[49]⟩) ∧ V.cell? ⟨p + 1 + 1, 0, none⟩ = some (.string ⟨#[97]⟩) ∧ V.cell? ⟨p + 1 + 1, 1, none⟩ = some (.int .u8 ok) ∧ V.cell? ⟨p + 1 + 1, 2, none⟩ = some (.int .i64 0) ∧ V.cell? ⟨p + 1 + 1, 3, none⟩ = some (.string ⟨#[49]⟩) ∧ V.cell? ⟨p + 1 + 1, 4, none⟩ = some (.string ⟨#[49]⟩) ∧ p < V.heap.size ∧ p + 1 < V.heap.size ∧ p + 1 + 1 < V.heap.size ∧ V.cell? ⟨g2, i, none⟩ = some (.string L) ∧ V.cell? ⟨g3, i, none⟩ = some (.string M) ∧ g2 < V.heap.size ∧ g3 < V.heap.size ∧ n ≤ p ∧ Below n w V := by
  refine ⟨(World.cell?_alloc_past _ _ _ (by simp; try omega)).trans ((World.cell?_alloc_past _ _ _ (by simp)).trans ((World.cell?_alloc_at _ _ _ _ (by simp)).trans rfl)), (World.cell?_alloc_past _ _ _ (by simp; try omega)).trans ((World.cell?_alloc_past _ _ _ (by simp)).trans ((World.cell?_alloc_at _ _ _ _ (by simp)).trans rfl)), (World.cell?_alloc_past _ _ _ (by simp; try omega)).trans ((World.cell?_alloc_past _ _ _ (by simp)).trans ((World.cell?_alloc_at _ _ _ _ (by simp)).trans rfl)), (World.cell?_alloc_past _ _ _ (by simp; try omega)).trans ((World.cell?_alloc_past _ _ _ (by simp)).trans ((World.cell?_alloc_at _ _ _ _ (by simp)).trans rfl)), (World.cell?_alloc_past _ _ _ (by simp; try omega)).trans ((World.cell?_alloc_past _ _ _ (by simp)).trans ((World.cell?_alloc_at _ _ _ _ (by simp)).trans rfl)), (World.cell?_alloc_past _ _ _ (by simp)).trans ((World.cell?_alloc_at _ _ _ _ (by simp)).trans rfl), (World.cell?_alloc_past _ _ _ (by simp)).trans ((World.cell?_alloc_at _ _ _ _ (by simp)).trans rfl), (World.cell?_alloc_past _ _ _ (by simp)).trans ((World.cell?_alloc_at _ _ _ _ (by simp)).trans rfl), (World.cell?_alloc_past _ _ _ (by simp)).trans ((World.cell?_alloc_at _ _ _ _ (by simp)).trans rfl), (World.cell?_alloc_past _ _ _ (by simp)).trans ((World.cell?_alloc_at _ _ _ _ (by simp)).trans rfl), (World.cell?_alloc_at _ _ _ _ (by simp)).trans rfl, (World.cell?_alloc_at _ _ _ _ (by simp)).trans rfl, (World.cell?_alloc_at _ _ _ _ (by simp)).trans rfl, (World.cell?_alloc_at _ _ _ _ (by simp)).trans rfl, (World.cell?_alloc_at _ _ _ _ (by simp)).trans rfl, by simp; try omega, by simp; try omega, by simp; try omega, ?_, ?_, by simp; omega, by simp; omega, hn, ((hB.alloc hn _).alloc (by simp; omega) _).alloc (by simp; omega) _⟩
  · exact (Below.cell (p := ⟨g2, i, none⟩) ((((Below.refl W.heap.size W).alloc (Nat.le_refl _) (.cells #[.string ⟨#[97]⟩, .int .u8 oi, .int .i64 0, .string ⟨#[49]⟩, .string ⟨#[49]⟩] 40)).alloc (by simp) (.cells #[.string ⟨#[98]⟩, .int .u8 ok, .int .i64 0, .string ⟨#[50]⟩, .string ⟨#[49]⟩] 40)).alloc (by simp; try omega) (.cells #[.string ⟨#[97]⟩, .int .u8 ok, .int .i64 0, .string ⟨#[49]⟩, .string ⟨#[49]⟩] 40)) l2).trans h2
  · exact (Below.cell (p := ⟨g3, i, none⟩) ((((Below.refl W.heap.size W).alloc (Nat.le_refl _) (.cells #[.string ⟨#[97]⟩, .int .u8 oi, .int .i64 0, .string ⟨#[49]⟩, .string ⟨#[49]⟩] 40)).alloc (by simp) (.cells #[.string ⟨#[98]⟩, .int .u8 ok, .int .i64 0, .string ⟨#[50]⟩, .string ⟨#[49]⟩] 40)).alloc (by simp; try omega) (.cells #[.string ⟨#[97]⟩, .int .u8 ok, .int .i64 0, .string ⟨#[49]⟩, .string ⟨#[49]⟩] 40)) l3).trans h3
theorem keep_sq {p : Nat} {n : Nat} {w W W' : World} (h : W.cell? ⟨p, 0, none⟩ = some (.string ⟨#[]⟩) ∧ W.cell? ⟨p, 1, none⟩ = some (.int .u8 0) ∧ W.cell? ⟨p, 2, none⟩ = some (.int .i64 0) ∧ W.cell? ⟨p, 3, none⟩ = some (.string ⟨#[49]⟩) ∧ W.cell? ⟨p, 4, none⟩ = some (.string ⟨#[]⟩) ∧ W.cell? ⟨p + 1, 0, none⟩ = some (.string ⟨#[]⟩) ∧ W.cell? ⟨p + 1, 1, none⟩ = some (.int .u8 2) ∧ W.cell? ⟨p + 1, 2, none⟩ = some (.int .i64 0) ∧ W.cell? ⟨p + 1, 3, none⟩ = some (.string ⟨#[49]⟩) ∧ W.cell? ⟨p + 1, 4, none⟩ = some (.string ⟨#[]⟩) ∧ W.cell? ⟨p + 1 + 1, 0, none⟩ = some (.string ⟨#[]⟩) ∧ W.cell? ⟨p + 1 + 1, 1, none⟩ = some (.int .u8 2) ∧ W.cell? ⟨p + 1 + 1, 2, none⟩ = some (.int .i64 0) ∧ W.cell? ⟨p + 1 + 1, 3, none⟩ = some (.string ⟨#[49]⟩) ∧ W.cell? ⟨p + 1 + 1, 4, none⟩ = some (.string ⟨#[57]⟩) ∧ W.cell? ⟨p + 1 + 1 + 1, 0, none⟩ = some (.string ⟨#[]⟩) ∧ W.cell? ⟨p + 1 + 1 + 1, 1, none⟩ = some (.int .u8 2) ∧ W.cell? ⟨p + 1 + 1 + 1, 2, none⟩ = some (.int .i64 0) ∧ W.cell? ⟨p + 1 + 1 + 1, 3, none⟩ = some (.string ⟨#[49]⟩) ∧ W.cell? ⟨p + 1 + 1 + 1, 4, none⟩ = some (.string ⟨#[56]⟩) ∧ p < W.heap.size ∧ p + 1 < W.heap.size ∧ p + 1 + 1 < W.heap.size ∧ p + 1 + 1 + 1 < W.heap.size ∧ n ≤ p ∧ Below n w W) (hb : Below W.heap.size W W') :
    W'.cell? ⟨p, 0, none⟩ = some (.string ⟨#[]⟩) ∧ W'.cell? ⟨p, 1, none⟩ = some (.int .u8 0) ∧ W'.cell? ⟨p, 2, none⟩ = some (.int .i64 0) ∧ W'.cell? ⟨p, 3, none⟩ = some (.string ⟨#[49]⟩) ∧ W'.cell? ⟨p, 4, none⟩ = some (.string ⟨#[]⟩) ∧ W'.cell? ⟨p + 1, 0, none⟩ = some (.string ⟨#[]⟩) ∧ W'.cell? ⟨p + 1, 1, none⟩ = some (.int .u8 2) ∧ W'.cell? ⟨p + 1, 2, none⟩ = some (.int .i64 0) ∧ W'.cell? ⟨p + 1, 3, none⟩ = some (.string ⟨#[49]⟩) ∧ W'.cell? ⟨p + 1, 4, none⟩ = some (.string ⟨#[]⟩) ∧ W'.cell? ⟨p + 1 + 1, 0, none⟩ = some (.string ⟨#[]⟩) ∧ W'.cell? ⟨p + 1 + 1, 1, none⟩ = some (.int .u8 2) ∧ W'.cell? ⟨p + 1 + 1, 2, none⟩ = some (.int .i64 0) ∧ W'.cell? ⟨p + 1 + 1, 3, none⟩ = some (.string ⟨#[49]⟩) ∧ W'.cell? ⟨p + 1 + 1, 4, none⟩ = some (.string ⟨#[57]⟩) ∧ W'.cell? ⟨p + 1 + 1 + 1, 0, none⟩ = some (.string ⟨#[]⟩) ∧ W'.cell? ⟨p + 1 + 1 + 1, 1, none⟩ = some (.int .u8 2) ∧ W'.cell? ⟨p + 1 + 1 + 1, 2, none⟩ = some (.int .i64 0) ∧ W'.cell? ⟨p + 1 + 1 + 1, 3, none⟩ = some (.string ⟨#[49]⟩) ∧ W'.cell? ⟨p + 1 + 1 + 1, 4, none⟩ = some (.string ⟨#[56]⟩) ∧ p < W'.heap.size ∧ p + 1 < W'.heap.size ∧ p + 1 + 1 < W'.heap.size ∧ p + 1 + 1 + 1 < W'.heap.size ∧ n ≤ p ∧ Below n w W' := by
  obtain ⟨c0_0, c0_1, c0_2, c0_3, c0_4, c1_0, c1_1, c1_2, c1_3, c1_4, c2_0, c2_1, c2_2, c2_3, c2_4, c3_0, c3_1, c3_2, c3_3, c3_4, l0, l1, l2, l3, lp, hB⟩ := h
  have hB_le : n ≤ W.heap.size := by omega
  exact ⟨(hb.cell (p := ⟨p, 0, none⟩) l0).trans c0_0, (hb.cell (p := ⟨p, 1, none⟩) l0).trans c0_1, (hb.cell (p := ⟨p, 2, none⟩) l0).trans c0_2, (hb.cell (p := ⟨p, 3, none⟩) l0).trans c0_3, (hb.cell (p := ⟨p, 4, none⟩) l0).trans c0_4, (hb.cell (p := ⟨p + 1, 0, none⟩) l1).trans c1_0, (hb.cell (p := ⟨p + 1, 1, none⟩) l1).trans c1_1, (hb.cell (p := ⟨p + 1, 2, none⟩) l1).trans c1_2, (hb.cell (p := ⟨p + 1, 3, none⟩) l1).trans c1_3, (hb.cell (p := ⟨p + 1, 4, none⟩) l1).trans c1_4, (hb.cell (p := ⟨p + 1 + 1, 0, none⟩) l2).trans c2_0, (hb.cell (p := ⟨p + 1 + 1, 1, none⟩) l2).trans c2_1, (hb.cell (p := ⟨p + 1 + 1, 2, none⟩) l2).trans c2_2, (hb.cell (p := ⟨p + 1 + 1, 3, none⟩) l2).trans c2_3, (hb.cell (p := ⟨p + 1 + 1, 4, none⟩) l2).trans c2_4, (hb.cell (p := ⟨p + 1 + 1 + 1, 0, none⟩) l3).trans c3_0, (hb.cell (p := ⟨p + 1 + 1 + 1, 1, none⟩) l3).trans c3_1, (hb.cell (p := ⟨p + 1 + 1 + 1, 2, none⟩) l3).trans c3_2, (hb.cell (p := ⟨p + 1 + 1 + 1, 3, none⟩) l3).trans c3_3, (hb.cell (p := ⟨p + 1 + 1 + 1, 4, none⟩) l3).trans c3_4, Nat.lt_of_lt_of_le l0 hb.size, Nat.lt_of_lt_of_le l1 hb.size, Nat.lt_of_lt_of_le l2 hb.size, Nat.lt_of_lt_of_le l3 hb.size, lp, hB.trans (hb.mono hB_le)⟩
theorem tail_sq {p : Nat} {n : Nat} {w W : World} (h : W.cell? ⟨p, 0, none⟩ = some (.string ⟨#[]⟩) ∧ W.cell? ⟨p, 1, none⟩ = some (.int .u8 0) ∧ W.cell? ⟨p, 2, none⟩ = some (.int .i64 0) ∧ W.cell? ⟨p, 3, none⟩ = some (.string ⟨#[49]⟩) ∧ W.cell? ⟨p, 4, none⟩ = some (.string ⟨#[]⟩) ∧ W.cell? ⟨p + 1, 0, none⟩ = some (.string ⟨#[]⟩) ∧ W.cell? ⟨p + 1, 1, none⟩ = some (.int .u8 2) ∧ W.cell? ⟨p + 1, 2, none⟩ = some (.int .i64 0) ∧ W.cell? ⟨p + 1, 3, none⟩ = some (.string ⟨#[49]⟩) ∧ W.cell? ⟨p + 1, 4, none⟩ = some (.string ⟨#[]⟩) ∧ W.cell? ⟨p + 1 + 1, 0, none⟩ = some (.string ⟨#[]⟩) ∧ W.cell? ⟨p + 1 + 1, 1, none⟩ = some (.int .u8 2) ∧ W.cell? ⟨p + 1 + 1, 2, none⟩ = some (.int .i64 0) ∧ W.cell? ⟨p + 1 + 1, 3, none⟩ = some (.string ⟨#[49]⟩) ∧ W.cell? ⟨p + 1 + 1, 4, none⟩ = some (.string ⟨#[57]⟩) ∧ W.cell? ⟨p + 1 + 1 + 1, 0, none⟩ = some (.string ⟨#[]⟩) ∧ W.cell? ⟨p + 1 + 1 + 1, 1, none⟩ = some (.int .u8 2) ∧ W.cell? ⟨p + 1 + 1 + 1, 2, none⟩ = some (.int .i64 0) ∧ W.cell? ⟨p + 1 + 1 + 1, 3, none⟩ = some (.string ⟨#[49]⟩) ∧ W.cell? ⟨p + 1 + 1 + 1, 4, none⟩ = some (.string ⟨#[56]⟩) ∧ p < W.heap.size ∧ p + 1 < W.heap.size ∧ p + 1 + 1 < W.heap.size ∧ p + 1 + 1 + 1 < W.heap.size ∧ n ≤ p ∧ Below n w W) : Below n w W := h.2.2.2.2.2.2.2.2.2.2.2.2.2.2.2.2.2.2.2.2.2.2.2.2.2
theorem new_sq {n : Nat} {w W : World} (hB : Below n w W) (hn : n ≤ W.heap.size) : let V := ((((W.alloc (.cells #[.string ⟨#[]⟩, .int .u8 0, .int .i64 0, .string ⟨#[49]⟩, .string ⟨#[]⟩] 40)).alloc (.cells #[.string ⟨#[]⟩, .int .u8 2, .int .i64 0, .string ⟨#[49]⟩, .string ⟨#[]⟩] 40)).alloc (.cells #[.string ⟨#[]⟩, .int .u8 2, .int .i64 0, .string ⟨#[49]⟩, .string ⟨#[57]⟩] 40)).alloc (.cells #[.string ⟨#[]⟩, .int .u8 2, .int .i64 0, .string ⟨#[49]⟩, .string ⟨#[56]⟩] 40)); let p := W.heap.size; V.cell? ⟨p, 0, none⟩ = some (.string ⟨#[]⟩) ∧ V.cell? ⟨p, 1, none⟩ = some (.int .u8 0) ∧ V.cell? ⟨p, 2, none⟩ = some (.int .i64 0) ∧ V.cell? ⟨p, 3, none⟩ = some (.string ⟨#[49]⟩) ∧ V.cell? ⟨p, 4, none⟩ = some (.string ⟨#[]⟩) ∧ V.cell? ⟨p + 1, 0, none⟩ = some (.string ⟨#[]⟩) ∧ V.cell? ⟨p + 1, 1, none⟩ = some (.int .u8 2) ∧ V.cell? ⟨p + 1, 2, none⟩ = some (.int .i64 0) ∧ V.cell? ⟨p + 1, 3, none⟩ = some (.string ⟨#[49]⟩) ∧ V.cell? ⟨p + 1, 4, none⟩ = some (.string ⟨#[]⟩) ∧ V.cell? ⟨p + 1 + 1, 0, none⟩ = some (.string ⟨#[]⟩) ∧ V.cell? ⟨p + 1 + 1, 1, none⟩ = some (.int .u8 2) ∧ V.cell? ⟨p + 1 + 1, 2, none⟩ = some (.int .i64 0) ∧ V.cell? ⟨p + 1 + 1, 3, none⟩ = some (.string ⟨#[49]⟩) ∧ V.cell? ⟨p + 1 + 1, 4, none⟩ = some (.string ⟨#[57]⟩) ∧ V.cell? ⟨p + 1 + 1 + 1, 0, none⟩ = some (.string ⟨#[]⟩) ∧ V.cell? ⟨p + 1 + 1 + 1, 1, none⟩ = some (.int .u8 2) ∧ V.cell? ⟨p + 1 + 1 + 1, 2, none⟩ = some (.int .i64 0) ∧ V.cell? ⟨p + 1 + 1 + 1, 3, none⟩ = some (.string ⟨#[49]⟩) ∧ V.cell? ⟨p + 1 + 1 + 1, 4, none⟩ = some (.string ⟨#[56]⟩) ∧ p < V.heap.size ∧ p + 1 < V.heap.size ∧ p + 1 + 1 < V.heap.size ∧ p + 1 + 1 + 1 < V.heap.size ∧ n ≤ p ∧ Below n w V := by
  exact ⟨(World.cell?_alloc_past _ _ _ (by simp; try omega)).trans ((World.cell?_alloc_past _ _ _ (by simp; try omega)).trans ((World.cell?_alloc_past _ _ _ (by simp)).trans ((World.cell?_alloc_at _ _ _ _ (by simp)).trans rfl))), (World.cell?_alloc_past _ _ _ (by simp; try omega)).trans ((World.cell?_alloc_past _ _ _ (by simp; try omega)).trans ((World.cell?_alloc_past _ _ _ (by simp)).trans ((World.cell?_alloc_at _ _ _ _ (by simp)).trans rfl))), (World.cell?_alloc_past _ _ _ (by simp; try omega)).trans ((World.cell?_alloc_past _ _ _ (by simp; try omega)).trans ((World.cell?_alloc_past _ _ _ (by simp)).trans ((World.cell?_alloc_at _ _ _ _ (by simp)).trans rfl))), (World.cell?_alloc_past _ _ _ (by simp; try omega)).trans ((World.cell?_alloc_past _ _ _ (by simp; try omega)).trans ((World.cell?_alloc_past _ _ _ (by simp)).trans ((World.cell?_alloc_at _ _ _ _ (by simp)).trans rfl))), (World.cell?_alloc_past _ _ _ (by simp; try omega)).trans ((World.cell?_alloc_past _ _ _ (by simp; try omega)).trans ((World.cell?_alloc_past _ _ _ (by simp)).trans ((World.cell?_alloc_at _ _ _ _ (by simp)).trans rfl))), (World.cell?_alloc_past _ _ _ (by simp; try omega)).trans ((World.cell?_alloc_past _ _ _ (by simp)).trans ((World.cell?_alloc_at _ _ _ _ (by simp)).trans rfl)), (World.cell?_alloc_past _ _ _ (by simp; try omega)).trans ((World.cell?_alloc_past _ _ _ (by simp)).trans ((World.cell?_alloc_at _ _ _ _ (by simp)).trans rfl)), (World.cell?_alloc_past _ _ _ (by simp; try omega)).trans ((World.cell?_alloc_past _ _ _ (by simp)).trans ((World.cell?_alloc_at _ _ _ _ (by simp)).trans rfl)), (World.cell?_alloc_past _ _ _ (by simp; try omega)).trans ((World.cell?_alloc_past _ _ _ (by simp)).trans ((World.cell?_alloc_at _ _ _ _ (by simp)).trans rfl)), (World.cell?_alloc_past _ _ _ (by simp; try omega)).trans ((World.cell?_alloc_past _ _ _ (by simp)).trans ((World.cell?_alloc_at _ _ _ _ (by simp)).trans rfl)), (World.cell?_alloc_past _ _ _ (by simp)).trans ((World.cell?_alloc_at _ _ _ _ (by simp)).trans rfl), (World.cell?_alloc_past _ _ _ (by simp)).trans ((World.cell?_alloc_at _ _ _ _ (by simp)).trans rfl), (World.cell?_alloc_past _ _ _ (by simp)).trans ((World.cell?_alloc_at _ _ _ _ (by simp)).trans rfl), (World.cell?_alloc_past _ _ _ (by simp)).trans ((World.cell?_alloc_at _ _ _ _ (by simp)).trans rfl), (World.cell?_alloc_past _ _ _ (by simp)).trans ((World.cell?_alloc_at _ _ _ _ (by simp)).trans rfl), (World.cell?_alloc_at _ _ _ _ (by simp)).trans rfl, (World.cell?_alloc_at _ _ _ _ (by simp)).trans rfl, (World.cell?_alloc_at _ _ _ _ (by simp)).trans rfl, (World.cell?_alloc_at _ _ _ _ (by simp)).trans rfl, (World.cell?_alloc_at _ _ _ _ (by simp)).trans rfl, by simp; try omega, by simp; try omega, by simp; try omega, by simp; try omega, hn, (((hB.alloc hn _).alloc (by simp; omega) _).alloc (by simp; omega) _).alloc (by simp; omega) _⟩
theorem rows3 (V7 : World) : let W0 := ((V7.alloc (.cells #[.int .u8 1, .int .u8 2, .int .u8 3, .int .u8 4, .int .u8 6] 5)).alloc (.cells #[.string ⟨#[49, 48, 49, 48, 48]⟩, .string ⟨#[49, 48, 49, 48, 48]⟩, .string ⟨#[49, 48, 49, 48, 48]⟩, .string ⟨#[49, 49, 49, 49, 49]⟩, .string ⟨#[49, 49, 49, 49, 49]⟩] 9)).alloc (.cells #[.string ⟨#[49, 48, 49, 48, 48]⟩, .string ⟨#[48, 49, 49, 48, 49]⟩, .string ⟨#[49, 49, 49, 48, 49]⟩, .string ⟨#[48, 48, 48, 49, 49]⟩, .string ⟨#[48, 49, 49, 49, 49]⟩] 9); ∀ W, Below W0.heap.size W0 W → ∀ j, j < 5 → W.cell? ⟨V7.heap.size, j, none⟩ = some (.int .u8 (opsF j)) ∧ W.cell? ⟨V7.heap.size + 1, j, none⟩ = some (.string (lessF j)) ∧ W.cell? ⟨V7.heap.size + 1 + 1, j, none⟩ = some (.string (sameF j)) := by
  intro W0 W hb j hj
  refine ⟨(hb.cell (p := ⟨V7.heap.size, j, none⟩) (by simp [W0]; omega)).trans ?_, (hb.cell (p := ⟨V7.heap.size + 1, j, none⟩) (by simp [W0]; try omega)).trans ?_, (hb.cell (p := ⟨V7.heap.size + 1 + 1, j, none⟩) (by simp [W0]; try omega)).trans ?_⟩
  · refine (World.cell?_alloc_past _ _ _ (by simp; try omega)).trans ((World.cell?_alloc_past _ _ _ (by simp)).trans ((World.cell?_alloc_at _ _ _ _ rfl).trans ?_))
    rcases (show j = 0 ∨ j = 1 ∨ j = 2 ∨ j = 3 ∨ j = 4 by omega) with rfl | rfl | rfl | rfl | rfl <;> rfl
  · refine (World.cell?_alloc_past _ _ _ (by simp)).trans ((World.cell?_alloc_at _ _ _ _ (by simp)).trans ?_)
    rcases (show j = 0 ∨ j = 1 ∨ j = 2 ∨ j = 3 ∨ j = 4 by omega) with rfl | rfl | rfl | rfl | rfl <;> rfl
  · refine (World.cell?_alloc_at _ _ _ _ (by simp)).trans ?_
    rcases (show j = 0 ∨ j = 1 ∨ j = 2 ∨ j = 3 ∨ j = 4 by omega) with rfl | rfl | rfl | rfl | rfl <;> rfl
theorem row3b {n : Nat} {w V7 : World} (hB : Below n w V7) (hn : n ≤ V7.heap.size) : Below n w (((V7.alloc (.cells #[.int .u8 1, .int .u8 2, .int .u8 3, .int .u8 4, .int .u8 6] 5)).alloc (.cells #[.string ⟨#[49, 48, 49, 48, 48]⟩, .string ⟨#[49, 48, 49, 48, 48]⟩, .string ⟨#[49, 48, 49, 48, 48]⟩, .string ⟨#[49, 49, 49, 49, 49]⟩, .string ⟨#[49, 49, 49, 49, 49]⟩] 9)).alloc (.cells #[.string ⟨#[49, 48, 49, 48, 48]⟩, .string ⟨#[48, 49, 49, 48, 49]⟩, .string ⟨#[49, 49, 49, 48, 49]⟩, .string ⟨#[48, 48, 48, 49, 49]⟩, .string ⟨#[48, 49, 49, 49, 49]⟩] 9)) := ((hB.alloc hn _).alloc (by simp; omega) _).alloc (by simp; omega) _
theorem opMay_nat {k : Nat} (h : opMay (k : Int) = true) : (k : Int) = 0 ∨ (k : Int) = 1 ∨ (k : Int) = 2 ∨ (k : Int) = 3 ∨ (k : Int) = 4 ∨ (k : Int) = 6 := by
  unfold opMay at h; simpa [or_assoc] using h
theorem opMay_not {n : Int} (h : opMay n = false) : (n == 0) = false ∧ (n == 1) = false ∧ (n == 2) = false ∧ (n == 3) = false ∧ (n == 4) = false ∧ (n == 6) = false := by
  unfold opMay at h
  simp only [Bool.or_eq_false_iff] at h
  exact ⟨h.1.1.1.1.1, h.1.1.1.1.2, h.1.1.1.2, h.1.1.2, h.1.2, h.2⟩
theorem bsx0 : bs [] = (⟨#[]⟩ : ByteArray) := rfl
theorem bsx1 : bs [49] = (⟨#[49]⟩ : ByteArray) := rfl
theorem bsx2 : bs [56] = (⟨#[56]⟩ : ByteArray) := rfl
theorem bsx3 : bs [57] = (⟨#[57]⟩ : ByteArray) := rfl
attribute [local go_sem ↓] Go.wp_at_zero Go.wp_at_succ
set_option maxRecDepth 100000 in
set_option maxHeartbeats 16000000 in
theorem spanNames_row (w : World) (hO : OpsIn w) : Calls Tryd.prog 5 #[] w fun e w' => e = .returned (.bool true) ∧ Below w.heap.size w w' := by
  have TX := Lib.hid (fun (k : Int) W (h : Below w.heap.size w W) => text_any k W (hO.below h))
  have MY := Lib.hid (fun (k : Int) W (h : Below w.heap.size w W) => may_any k W (hO.below h))
  have PS := Lib.hid (fun (l : Bytes) (q : Int × Bool) (hl : l.length ≤ 1000) (hq : opOf l = q) W (h : Below w.heap.size w W) => show Calls Tryd.prog 24 #[.string (bs l)] W fun e w' => e = .returned (.tuple #[.int .u8 q.1, .bool q.2]) ∧ W = w' from by have h2 := opParse_any (bs l) (by rw [bs_size]; unfold maxLen; omega) W (hO.below h); rw [bs_toList, hq] at h2; exact h2)
  have AW := Lib.hid (fun W (h : Below w.heap.size w W) => awake04 W (hO.below h))
  clear hO
  go_enter Tryd.func5, Tryd.ntmps5
  go_wp2_with fail
  go_loopw [1] (fun i wr => ∃ k : Nat, k ≤ 256 ∧ i = .int .i64 (k : Int) ∧ Below w.heap.size w wr) (fun i _ => 256 - (intOf i).toNat)
  case atStart => exact ⟨0, by omega, rfl, Below.refl _ _⟩
  case round =>
    obtain ⟨k, hk, rfl, hB⟩ := hrel
    rename World => wr
    by_cases hlt : k < 256
    · cases hm : opMay (k : Int) with
      | true =>
        have hk6 : k = 0 ∨ k = 1 ∨ k = 2 ∨ k = 3 ∨ k = 4 ∨ k = 6 := by
          rcases opMay_nat hm with h | h | h | h | h | h <;> omega
        clear hm
        rcases hk6 with rfl | rfl | rfl | rfl | rfl | rfl
        · have T := Lib.hid (TX.out 0)
          rw [show opText 0 = [] from rfl] at T
          have P := Lib.hid (PS.out [] (0, true) (by decide) (by decide))
          have Y := Lib.hid (MY.out 0)
          rw [show opMay 0 = true from rfl] at Y
          rw [show ((0 : Nat) : Int) = 0 from rfl]
          generalize bs [] = t at *
          go_wp2_with fail
          go_at_call 25
          refine (T.out _ hB).mono ?_
          rintro e1 w1 ⟨rfl, h⟩
          have B1 := hB.trans (h.mono hB.size)
          clear h
          go_wp2_with fail
          go_at_call 24
          refine (P.out _ B1).mono ?_
          rintro e2 w2 ⟨rfl, rfl⟩
          go_wp2_with fail
          go_at_call 26
          refine (Y.out _ B1).mono ?_
          rintro e3 w3 ⟨rfl, h⟩
          have B3 := B1.trans (h.mono B1.size)
          clear h
          go_wp2_with fail
          go_roundw
          case rel => exact ⟨1, by decide, rfl, B3⟩
          case measure => simp [intOf]
        · have T := Lib.hid (TX.out 1)
          rw [show opText 1 = [60] from rfl] at T
          have P := Lib.hid (PS.out [60] (1, true) (by decide) (by decide))
          have Y := Lib.hid (MY.out 1)
          rw [show opMay 1 = true from rfl] at Y
          rw [show ((1 : Nat) : Int) = 1 from rfl]
          generalize bs [60] = t at *
          go_wp2_with fail
          go_at_call 25
          refine (T.out _ hB).mono ?_
          rintro e1 w1 ⟨rfl, h⟩
          have B1 := hB.trans (h.mono hB.size)
          clear h
          go_wp2_with fail
          go_at_call 24
          refine (P.out _ B1).mono ?_
          rintro e2 w2 ⟨rfl, rfl⟩
          go_wp2_with fail
          go_at_call 26
          refine (Y.out _ B1).mono ?_
          rintro e3 w3 ⟨rfl, h⟩
          have B3 := B1.trans (h.mono B1.size)
          clear h
          go_wp2_with fail
          go_roundw
          case rel => exact ⟨2, by decide, rfl, B3⟩
          case measure => simp [intOf]
        · have T := Lib.hid (TX.out 2)
          rw [show opText 2 = [61] from rfl] at T
          have P := Lib.hid (PS.out [61] (2, true) (by decide) (by decide))
          have Y := Lib.hid (MY.out 2)
          rw [show opMay 2 = true from rfl] at Y
          rw [show ((2 : Nat) : Int) = 2 from rfl]
          generalize bs [61] = t at *
          go_wp2_with fail
          go_at_call 25
          refine (T.out _ hB).mono ?_
          rintro e1 w1 ⟨rfl, h⟩
          have B1 := hB.trans (h.mono hB.size)
          clear h
          go_wp2_with fail
          go_at_call 24
          refine (P.out _ B1).mono ?_
          rintro e2 w2 ⟨rfl, rfl⟩
          go_wp2_with fail
          go_at_call 26
          refine (Y.out _ B1).mono ?_
          rintro e3 w3 ⟨rfl, h⟩
          have B3 := B1.trans (h.mono B1.size)
          clear h
          go_wp2_with fail
          go_roundw
          case rel => exact ⟨3, by decide, rfl, B3⟩
          case measure => simp [intOf]
        · have T := Lib.hid (TX.out 3)
          rw [show opText 3 = [60, 61] from rfl] at T
          have P := Lib.hid (PS.out [60, 61] (3, true) (by decide) (by decide))
          have Y := Lib.hid (MY.out 3)
          rw [show opMay 3 = true from rfl] at Y
          rw [show ((3 : Nat) : Int) = 3 from rfl]
          generalize bs [60, 61] = t at *
          go_wp2_with fail
          go_at_call 25
          refine (T.out _ hB).mono ?_
          rintro e1 w1 ⟨rfl, h⟩
          have B1 := hB.trans (h.mono hB.size)
          clear h
          go_wp2_with fail
          go_at_call 24
          refine (P.out _ B1).mono ?_
          rintro e2 w2 ⟨rfl, rfl⟩
          go_wp2_with fail
          go_at_call 26
          refine (Y.out _ B1).mono ?_
          rintro e3 w3 ⟨rfl, h⟩
          have B3 := B1.trans (h.mono B1.size)
          clear h
          go_wp2_with fail
          go_roundw
          case rel => exact ⟨4, by decide, rfl, B3⟩
          case measure => simp [intOf]
        · have T := Lib.hid (TX.out 4)
          rw [show opText 4 = [62] from rfl] at T
          have P := Lib.hid (PS.out [62] (4, true) (by decide) (by decide))
          have Y := Lib.hid (MY.out 4)
          rw [show opMay 4 = true from rfl] at Y
          rw [show ((4 : Nat) : Int) = 4 from rfl]
          generalize bs [62] = t at *
          go_wp2_with fail
          go_at_call 25
          refine (T.out _ hB).mono ?_
          rintro e1 w1 ⟨rfl, h⟩
          have B1 := hB.trans (h.mono hB.size)
          clear h
          go_wp2_with fail
          go_at_call 24
          refine (P.out _ B1).mono ?_
          rintro e2 w2 ⟨rfl, rfl⟩
          go_wp2_with fail
          go_at_call 26
          refine (Y.out _ B1).mono ?_
          rintro e3 w3 ⟨rfl, h⟩
          have B3 := B1.trans (h.mono B1.size)
          clear h
          go_wp2_with fail
          go_roundw
          case rel => exact ⟨5, by decide, rfl, B3⟩
          case measure => simp [intOf]
        · have T := Lib.hid (TX.out 6)
          rw [show opText 6 = [62, 61] from rfl] at T
          have P := Lib.hid (PS.out [62, 61] (6, true) (by decide) (by decide))
          have Y := Lib.hid (MY.out 6)
          rw [show opMay 6 = true from rfl] at Y
          rw [show ((6 : Nat) : Int) = 6 from rfl]
          generalize bs [62, 61] = t at *
          go_wp2_with fail
          go_at_call 25
          refine (T.out _ hB).mono ?_
          rintro e1 w1 ⟨rfl, h⟩
          have B1 := hB.trans (h.mono hB.size)
          clear h
          go_wp2_with fail
          go_at_call 24
          refine (P.out _ B1).mono ?_
          rintro e2 w2 ⟨rfl, rfl⟩
          go_wp2_with fail
          go_at_call 26
          refine (Y.out _ B1).mono ?_
          rintro e3 w3 ⟨rfl, h⟩
          have B3 := B1.trans (h.mono B1.size)
          clear h
          go_wp2_with fail
          go_roundw
          case rel => exact ⟨7, by decide, rfl, B3⟩
          case measure => simp [intOf]
      | false =>
        obtain ⟨n0, n1, n2, n3, n4, n6⟩ := opMay_not hm
        have T := Lib.hid (TX.out (k : Int))
        rw [opText_no (by simp at n0 n1 n2 n3 n4 n6; omega)] at T
        have P := Lib.hid (PS.out [] (0, true) (by decide) (by decide))
        have Y := Lib.hid (MY.out (k : Int))
        rw [hm] at Y
        clear hm
        have i0 : (0 : Int) ≤ (k : Int) := by omega
        have i1 : (k : Int) ≤ 255 := by omega
        have i2 : (k : Int) < 256 := by omega
        generalize bs [] = t at *
        go_wp2_with fail
        go_at_call 25
        refine (T.out _ hB).mono ?_
        rintro e1 w1 ⟨rfl, h⟩
        have B1 := hB.trans (h.mono hB.size)
        clear h
        go_wp2_with fail
        go_at_call 24
        refine (P.out _ B1).mono ?_
        rintro e2 w2 ⟨rfl, rfl⟩
        go_wp2_with fail
        go_at_call 26
        refine (Y.out _ B1).mono ?_
        rintro e3 w3 ⟨rfl, h⟩
        have B3 := B1.trans (h.mono B1.size)
        clear h
        go_wp2_with fail
        go_roundw
        case rel => exact ⟨k + 1, by omega, by go_num, B3⟩
        case measure => simp [intOf]; omega
    · have i2 : ¬ (k : Int) < 256 := by omega
      clear hk hlt TX MY
      have P0 := Lib.hid (PS.out [61, 61] (0, false) (by decide) (by decide))
      rw [show bs [61, 61] = (⟨#[61, 61]⟩ : ByteArray) from rfl] at P0
      have P1 := Lib.hid (PS.out [61, 62] (0, false) (by decide) (by decide))
      rw [show bs [61, 62] = (⟨#[61, 62]⟩ : ByteArray) from rfl] at P1
      have P2 := Lib.hid (PS.out [61, 60] (0, false) (by decide) (by decide))
      rw [show bs [61, 60] = (⟨#[61, 60]⟩ : ByteArray) from rfl] at P2
      have P3 := Lib.hid (PS.out [60, 62] (0, false) (by decide) (by decide))
      rw [show bs [60, 62] = (⟨#[60, 62]⟩ : ByteArray) from rfl] at P3
      have P4 := Lib.hid (PS.out [33] (0, false) (by decide) (by decide))
      rw [show bs [33] = (⟨#[33]⟩ : ByteArray) from rfl] at P4
      have P5 := Lib.hid (PS.out [32] (0, false) (by decide) (by decide))
      rw [show bs [32] = (⟨#[32]⟩ : ByteArray) from rfl] at P5
      have P6 := Lib.hid (PS.out [60, 32] (0, false) (by decide) (by decide))
      rw [show bs [60, 32] = (⟨#[60, 32]⟩ : ByteArray) from rfl] at P6
      clear PS
      go_wp2_with fail
      have d0 : (wr.alloc (.cells #[.string ⟨#[61, 61]⟩, .string ⟨#[61, 62]⟩, .string ⟨#[61, 60]⟩, .string ⟨#[60, 62]⟩, .string ⟨#[33]⟩, .string ⟨#[32]⟩, .string ⟨#[60, 32]⟩] 9)).cell? ⟨wr.heap.size, 0, none⟩ = some (.string ⟨#[61, 61]⟩) := (World.cell?_alloc_at _ _ _ _ rfl).trans rfl
      have d1 : (wr.alloc (.cells #[.string ⟨#[61, 61]⟩, .string ⟨#[61, 62]⟩, .string ⟨#[61, 60]⟩, .string ⟨#[60, 62]⟩, .string ⟨#[33]⟩, .string ⟨#[32]⟩, .string ⟨#[60, 32]⟩] 9)).cell? ⟨wr.heap.size, 1, none⟩ = some (.string ⟨#[61, 62]⟩) := (World.cell?_alloc_at _ _ _ _ rfl).trans rfl
      have d2 : (wr.alloc (.cells #[.string ⟨#[61, 61]⟩, .string ⟨#[61, 62]⟩, .string ⟨#[61, 60]⟩, .string ⟨#[60, 62]⟩, .string ⟨#[33]⟩, .string ⟨#[32]⟩, .string ⟨#[60, 32]⟩] 9)).cell? ⟨wr.heap.size, 2, none⟩ = some (.string ⟨#[61, 60]⟩) := (World.cell?_alloc_at _ _ _ _ rfl).trans rfl
      have d3 : (wr.alloc (.cells #[.string ⟨#[61, 61]⟩, .string ⟨#[61, 62]⟩, .string ⟨#[61, 60]⟩, .string ⟨#[60, 62]⟩, .string ⟨#[33]⟩, .string ⟨#[32]⟩, .string ⟨#[60, 32]⟩] 9)).cell? ⟨wr.heap.size, 3, none⟩ = some (.string ⟨#[60, 62]⟩) := (World.cell?_alloc_at _ _ _ _ rfl).trans rfl
      have d4 : (wr.alloc (.cells #[.string ⟨#[61, 61]⟩, .string ⟨#[61, 62]⟩, .string ⟨#[61, 60]⟩, .string ⟨#[60, 62]⟩, .string ⟨#[33]⟩, .string ⟨#[32]⟩, .string ⟨#[60, 32]⟩] 9)).cell? ⟨wr.heap.size, 4, none⟩ = some (.string ⟨#[33]⟩) := (World.cell?_alloc_at _ _ _ _ rfl).trans rfl
      have d5 : (wr.alloc (.cells #[.string ⟨#[61, 61]⟩, .string ⟨#[61, 62]⟩, .string ⟨#[61, 60]⟩, .string ⟨#[60, 62]⟩, .string ⟨#[33]⟩, .string ⟨#[32]⟩, .string ⟨#[60, 32]⟩] 9)).cell? ⟨wr.heap.size, 5, none⟩ = some (.string ⟨#[32]⟩) := (World.cell?_alloc_at _ _ _ _ rfl).trans rfl
      have d6 : (wr.alloc (.cells #[.string ⟨#[61, 61]⟩, .string ⟨#[61, 62]⟩, .string ⟨#[61, 60]⟩, .string ⟨#[60, 62]⟩, .string ⟨#[33]⟩, .string ⟨#[32]⟩, .string ⟨#[60, 32]⟩] 9)).cell? ⟨wr.heap.size, 6, none⟩ = some (.string ⟨#[60, 32]⟩) := (World.cell?_alloc_at _ _ _ _ rfl).trans rfl
      have hB7 : Below w.heap.size w (wr.alloc (.cells #[.string ⟨#[61, 61]⟩, .string ⟨#[61, 62]⟩, .string ⟨#[61, 60]⟩, .string ⟨#[60, 62]⟩, .string ⟨#[33]⟩, .string ⟨#[32]⟩, .string ⟨#[60, 32]⟩] 9)) := hB.alloc hB.size _
      generalize wr.alloc (.cells #[.string ⟨#[61, 61]⟩, .string ⟨#[61, 62]⟩, .string ⟨#[61, 60]⟩, .string ⟨#[60, 62]⟩, .string ⟨#[33]⟩, .string ⟨#[32]⟩, .string ⟨#[60, 32]⟩] 9) = V7 at *
      generalize wr.heap.size = g7 at *
      clear hB
      refine wp_loop_rounds 8 ?_
      rw [rounds_succ]
      go_wp2_with fail
      go_at_call 24
      refine (P0.out _ hB7).mono ?_
      rintro e w' ⟨rfl, rfl⟩
      clear P0
      go_wp2_with fail
      rw [rounds_succ]
      go_wp2_with fail
      go_at_call 24
      refine (P1.out _ hB7).mono ?_
      rintro e w' ⟨rfl, rfl⟩
      clear P1
      go_wp2_with fail
      rw [rounds_succ]
      go_wp2_with fail
      go_at_call 24
      refine (P2.out _ hB7).mono ?_
      rintro e w' ⟨rfl, rfl⟩
      clear P2
      go_wp2_with fail
      rw [rounds_succ]
      go_wp2_with fail
      go_at_call 24
      refine (P3.out _ hB7).mono ?_
      rintro e w' ⟨rfl, rfl⟩
      clear P3
      go_wp2_with fail
      rw [rounds_succ]
      go_wp2_with fail
      go_at_call 24
      refine (P4.out _ hB7).mono ?_
      rintro e w' ⟨rfl, rfl⟩
      clear P4
      go_wp2_with fail
      rw [rounds_succ]
      go_wp2_with fail
      go_at_call 24
      refine (P5.out _ hB7).mono ?_
      rintro e w' ⟨rfl, rfl⟩
      clear P5
      go_wp2_with fail
      rw [rounds_succ]
      go_wp2_with fail
      go_at_call 24
      refine (P6.out _ hB7).mono ?_
      rintro e w' ⟨rfl, rfl⟩
      clear P6
      go_wp2_with fail
      clear d0 d1 d2 d3 d4 d5 d6
      have R := rows3 V7
      dsimp only at R
      have hB0 := row3b hB7 hB7.size
      rw [rounds_succ]
      go_wp2_with fail
      generalize hW0 : ((V7.alloc (.cells #[.int .u8 1, .int .u8 2, .int .u8 3, .int .u8 4, .int .u8 6] 5)).alloc (.cells #[.string ⟨#[49, 48, 49, 48, 48]⟩, .string ⟨#[49, 48, 49, 48, 48]⟩, .string ⟨#[49, 48, 49, 48, 48]⟩, .string ⟨#[49, 49, 49, 49, 49]⟩, .string ⟨#[49, 49, 49, 49, 49]⟩] 9)).alloc (.cells #[.string ⟨#[49, 48, 49, 48, 48]⟩, .string ⟨#[48, 49, 49, 48, 49]⟩, .string ⟨#[49, 49, 49, 48, 49]⟩, .string ⟨#[48, 48, 48, 49, 49]⟩, .string ⟨#[48, 49, 49, 49, 49]⟩] 9) = W0 at *
      have lw : V7.heap.size + 1 + 1 < W0.heap.size := by rw [← hW0]; simp; try omega
      clear hW0
      generalize hg3 : V7.heap.size + 1 + 1 = g3 at *
      generalize hg2 : V7.heap.size + 1 = g2 at *
      generalize V7.heap.size = g1 at *
      have HR := Lib.hid R
      clear R
      have l1 : g1 < W0.heap.size := by omega
      have l2 : g2 < W0.heap.size := by omega
      clear hg2 hg3 hB7
      go_loopw [12] (fun i wr => ∃ k : Nat, k ≤ 5 ∧ i = .int .i64 (k : Int) ∧ Below W0.heap.size W0 wr) (fun i _ => 5 - (intOf i).toNat)
      case atStart => exact ⟨0, by omega, rfl, Below.refl _ _⟩
      case round =>
        obtain ⟨i, hi, rfl, hBi⟩ := hrel
        rename World => wi
        obtain ⟨wo, rfl⟩ : ∃ wo : World, wo = wi := ⟨_, rfl⟩
        by_cases hi5 : i < 5
        · have a1 : (i : Int) < 5 := by omega
          have a0 : (0 : Int) ≤ (i : Int) := by omega
          go_wp2_with fail
          go_loopw [13] (fun j wr => ∃ k : Nat, k ≤ 5 ∧ j = .int .i64 (k : Int) ∧ Below W0.heap.size W0 wr) (fun j _ => 5 - (intOf j).toNat)
          case atStart => exact ⟨0, by omega, rfl, hBi⟩
          case round =>
            obtain ⟨k, hk, rfl, hBk⟩ := hrel
            rename World => wk
            by_cases hk5 : k < 5
            · have b1 : (k : Int) < 5 := by omega
              have b0 : (0 : Int) ≤ (k : Int) := by omega
              obtain ⟨t1, t2, t3, t4, t5, t6, t7⟩ := table ⟨i, hi5⟩ ⟨k, hk5⟩
              have u1 := (table ⟨k, hk5⟩ ⟨i, hi5⟩).1
              have u2 := (table ⟨k, hk5⟩ ⟨i, hi5⟩).2.1
              dsimp only at t1 t2 t3 t4 t5 t6 t7 u1 u2
              have c1 := (HR.out wk hBk i hi5).1
              have c2 := (HR.out wk hBk k hk5).1
              have c3 := (HR.out wk hBk i hi5).2.1
              have c4 := (HR.out wk hBk i hi5).2.2
              have hl1 := Nat.lt_of_lt_of_le l1 hBk.size
              have hl1a : g1 < wk.heap.size + 1 := by omega
              have hl1b : g1 < wk.heap.size + 1 + 1 := by omega
              have s1 : k < (lessF i).size := by omega
              have s2 : k < (sameF i).size := by omega
              rw [byte_eq s1] at t5 t6
              rw [byte_eq s2] at t7
              have M1 := Lib.hid (fun W => meet_any (dA (opsF i)) (dB (opsF k)) W (ok1 _ _ (by decide) (by decide) _) (ok1 _ _ (by decide) (by decide) _) t2 t1 u2 u1)
              have M2 := Lib.hid (fun W => meet_any (dB (opsF k)) (dA (opsF i)) W (ok1 _ _ (by decide) (by decide) _) (ok1 _ _ (by decide) (by decide) _) u2 u1 t2 t1)
              have M3 := Lib.hid (fun W => meet_any (dA (opsF i)) (dA (opsF k)) W (ok1 _ _ (by decide) (by decide) _) (ok1 _ _ (by decide) (by decide) _) t2 t1 u2 u1)
              rw [t5] at M1
              rw [t6] at M2
              rw [t7] at M3
              unfold Dp.val dA dB at M1 M2
              unfold Dp.val dA at M3
              dsimp only at M1 M2 M3
              rw [show bs [97] = (⟨#[97]⟩ : ByteArray) from rfl, show bs [98] = (⟨#[98]⟩ : ByteArray) from rfl, show bs [49] = (⟨#[49]⟩ : ByteArray) from rfl, show bs [50] = (⟨#[50]⟩ : ByteArray) from rfl] at M1 M2
              rw [show bs [97] = (⟨#[97]⟩ : ByteArray) from rfl, show bs [49] = (⟨#[49]⟩ : ByteArray) from rfl] at M3
              have s3 : (k : Int) < ((lessF i).size : Int) := by omega
              have s4 : (k : Int) < ((sameF i).size : Int) := by omega
              clear t3 t4 t5 t6 t7
              generalize opsF i = oi at *
              generalize opsF k = ok at *
              generalize lessF i = L at *
              generalize sameF i = M at *
              have hl2 := Nat.lt_of_lt_of_le l2 hBk.size
              have hl3 := Nat.lt_of_lt_of_le lw hBk.size
              have SN := new_sn oi ok c3 c4 hl2 hl3 hBk hBk.size
              dsimp only at SN
              go_wp2_with fail
              generalize hV : ((wk.alloc (.cells #[.string ⟨#[97]⟩, .int .u8 oi, .int .i64 0, .string ⟨#[49]⟩, .string ⟨#[49]⟩] 40)).alloc (.cells #[.string ⟨#[98]⟩, .int .u8 ok, .int .i64 0, .string ⟨#[50]⟩, .string ⟨#[49]⟩] 40)).alloc (.cells #[.string ⟨#[97]⟩, .int .u8 ok, .int .i64 0, .string ⟨#[49]⟩, .string ⟨#[49]⟩] 40) = V at *
              generalize wk.heap.size = p at *
              clear hV c1 c2 c3 c4 hBk
              obtain ⟨c0_0, c0_1, c0_2, c0_3, c0_4, c1_0, c1_1, c1_2, c1_3, c1_4, c2_0, c2_1, c2_2, c2_3, c2_4, l0, l1, l2, x2, x3, y2, y3, lp, hB⟩ := id SN
              go_region_held3 (fun W => W.cell? ⟨p, 0, none⟩ = some (.string ⟨#[97]⟩) ∧ W.cell? ⟨p, 1, none⟩ = some (.int .u8 oi) ∧ W.cell? ⟨p, 2, none⟩ = some (.int .i64 0) ∧ W.cell? ⟨p, 3, none⟩ = some (.string ⟨#[49]⟩) ∧ W.cell? ⟨p, 4, none⟩ = some (.string ⟨#[49]⟩) ∧ W.cell? ⟨p + 1, 0, none⟩ = some (.string ⟨#[98]⟩) ∧ W.cell? ⟨p + 1, 1, none⟩ = some (.int .u8 ok) ∧ W.cell? ⟨p + 1, 2, none⟩ = some (.int .i64 0) ∧ W.cell? ⟨p + 1, 3, none⟩ = some (.string ⟨#[50]⟩) ∧ W.cell? ⟨p + 1, 4, none⟩ = some (.string ⟨#[49]⟩) ∧ W.cell? ⟨p + 1 + 1, 0, none⟩ = some (.string ⟨#[97]⟩) ∧ W.cell? ⟨p + 1 + 1, 1, none⟩ = some (.int .u8 ok) ∧ W.cell? ⟨p + 1 + 1, 2, none⟩ = some (.int .i64 0) ∧ W.cell? ⟨p + 1 + 1, 3, none⟩ = some (.string ⟨#[49]⟩) ∧ W.cell? ⟨p + 1 + 1, 4, none⟩ = some (.string ⟨#[49]⟩) ∧ p < W.heap.size ∧ p + 1 < W.heap.size ∧ p + 1 + 1 < W.heap.size ∧ W.cell? ⟨g2, i, none⟩ = some (.string L) ∧ W.cell? ⟨g3, i, none⟩ = some (.string M) ∧ g2 < W.heap.size ∧ g3 < W.heap.size ∧ W0.heap.size ≤ p ∧ Below W0.heap.size W0 W) (first | exact keep_sn (by assumption) hbb | exact ⟨c0_0, c0_1, c0_2, c0_3, c0_4, c1_0, c1_1, c1_2, c1_3, c1_4, c2_0, c2_1, c2_2, c2_3, c2_4, l0, l1, l2, x2, x3, y2, y3, lp, hB.drew⟩ | go_keep) (first | (go_at_call 27; ((with_reducible refine (M1.out _).mono ?_); rintro e w' ⟨rfl, hbb⟩)) | (go_at_call 27; ((with_reducible refine (M2.out _).mono ?_); rintro e w' ⟨rfl, hbb⟩)) | (go_at_call 27; ((with_reducible refine (M3.out _).mono ?_); rintro e w' ⟨rfl, hbb⟩)))
              all_goals
                rename_i hh
                go_wp2_with fail
                go_roundw
                case rel => exact ⟨k + 1, by omega, by go_num, tail_sn hh⟩
                case measure => simp [intOf]; omega
            · have b1 : ¬ (k : Int) < 5 := by omega
              go_wp2_with fail
              go_roundw
              case rel => exact ⟨i + 1, by omega, by go_num, hBk⟩
              case measure => simp [intOf]; omega
        · have a1 : ¬ (i : Int) < 5 := by omega
          clear HR
          have Q1 := Lib.hid (fun W => (meet_any ⟨[], 0, ⟨0, [49], []⟩⟩ ⟨[], 2, ⟨0, [49], [57]⟩⟩ W (ok1 _ _ (by decide) (by decide) _) (ok1 _ _ (by decide) (by decide) _) (by decide) (by decide) (by decide) (by decide)))
          rw [show meetP ⟨[], 0, ⟨0, [49], []⟩⟩ ⟨[], 2, ⟨0, [49], [57]⟩⟩ = true from by decide +kernel] at Q1
          unfold Dp.val at Q1
          dsimp only at Q1
          have Q2 := Lib.hid (fun W => (meet_any ⟨[], 2, ⟨0, [49], [57]⟩⟩ ⟨[], 0, ⟨0, [49], []⟩⟩ W (ok1 _ _ (by decide) (by decide) _) (ok1 _ _ (by decide) (by decide) _) (by decide) (by decide) (by decide) (by decide)))
          rw [show meetP ⟨[], 2, ⟨0, [49], [57]⟩⟩ ⟨[], 0, ⟨0, [49], []⟩⟩ = true from by decide +kernel] at Q2
          unfold Dp.val at Q2
          dsimp only at Q2
          have Q4 := Lib.hid (fun W => (meet_any ⟨[], 2, ⟨0, [49], []⟩⟩ ⟨[], 2, ⟨0, [49], [57]⟩⟩ W (ok1 _ _ (by decide) (by decide) _) (ok1 _ _ (by decide) (by decide) _) (by decide) (by decide) (by decide) (by decide)))
          rw [show meetP ⟨[], 2, ⟨0, [49], []⟩⟩ ⟨[], 2, ⟨0, [49], [57]⟩⟩ = true from by decide +kernel] at Q4
          unfold Dp.val at Q4
          dsimp only at Q4
          have Q5 := Lib.hid (fun W => (meet_any ⟨[], 2, ⟨0, [49], []⟩⟩ ⟨[], 2, ⟨0, [49], [56]⟩⟩ W (ok1 _ _ (by decide) (by decide) _) (ok1 _ _ (by decide) (by decide) _) (by decide) (by decide) (by decide) (by decide)))
          rw [show meetP ⟨[], 2, ⟨0, [49], []⟩⟩ ⟨[], 2, ⟨0, [49], [56]⟩⟩ = true from by decide +kernel] at Q5
          unfold Dp.val at Q5
          dsimp only at Q5
          have Q6 := Lib.hid (fun W => (meet_any ⟨[], 2, ⟨0, [49], [57]⟩⟩ ⟨[], 2, ⟨0, [49], [56]⟩⟩ W (ok1 _ _ (by decide) (by decide) _) (ok1 _ _ (by decide) (by decide) _) (by decide) (by decide) (by decide) (by decide)))
          rw [show meetP ⟨[], 2, ⟨0, [49], [57]⟩⟩ ⟨[], 2, ⟨0, [49], [56]⟩⟩ = false from by decide +kernel] at Q6
          unfold Dp.val at Q6
          dsimp only at Q6
          have Q3 := Lib.hid (fun W => has_any ⟨[], 0, ⟨0, [49], []⟩⟩ ⟨0, [], []⟩ W (ok1 _ _ (by decide) (by decide) _) (ok1 _ _ (by decide) (by decide) _) (by decide) (by decide))
          rw [show hasP ⟨[], 0, ⟨0, [49], []⟩⟩ ⟨0, [], []⟩ = true from by decide +kernel] at Q3
          unfold Dp.val Evr.val at Q3
          dsimp only at Q3
          have Q7 := Lib.hid (fun W => has_any ⟨[], 2, ⟨0, [49], []⟩⟩ ⟨0, [49], [57]⟩ W (ok1 _ _ (by decide) (by decide) _) (ok1 _ _ (by decide) (by decide) _) (by decide) (by decide))
          rw [show hasP ⟨[], 2, ⟨0, [49], []⟩⟩ ⟨0, [49], [57]⟩ = true from by decide +kernel] at Q7
          unfold Dp.val Evr.val at Q7
          dsimp only at Q7
          have Q8 := Lib.hid (fun W => has_any ⟨[], 2, ⟨0, [49], [57]⟩⟩ ⟨0, [49], []⟩ W (ok1 _ _ (by decide) (by decide) _) (ok1 _ _ (by decide) (by decide) _) (by decide) (by decide))
          rw [show hasP ⟨[], 2, ⟨0, [49], [57]⟩⟩ ⟨0, [49], []⟩ = true from by decide +kernel] at Q8
          unfold Dp.val Evr.val at Q8
          dsimp only at Q8
          try rw [bsx0] at Q1
          try rw [bsx1] at Q1
          try rw [bsx2] at Q1
          try rw [bsx3] at Q1
          try rw [bsx0] at Q2
          try rw [bsx1] at Q2
          try rw [bsx2] at Q2
          try rw [bsx3] at Q2
          try rw [bsx0] at Q3
          try rw [bsx1] at Q3
          try rw [bsx2] at Q3
          try rw [bsx3] at Q3
          try rw [bsx0] at Q4
          try rw [bsx1] at Q4
          try rw [bsx2] at Q4
          try rw [bsx3] at Q4
          try rw [bsx0] at Q5
          try rw [bsx1] at Q5
          try rw [bsx2] at Q5
          try rw [bsx3] at Q5
          try rw [bsx0] at Q6
          try rw [bsx1] at Q6
          try rw [bsx2] at Q6
          try rw [bsx3] at Q6
          try rw [bsx0] at Q7
          try rw [bsx1] at Q7
          try rw [bsx2] at Q7
          try rw [bsx3] at Q7
          try rw [bsx0] at Q8
          try rw [bsx1] at Q8
          try rw [bsx2] at Q8
          try rw [bsx3] at Q8
          have hBw := hB0.trans (hBi.mono hB0.size)
          have S0 := new_sq hBw hBw.size
          dsimp only at S0
          clear hB0 hBi hBw
          go_wp2_with fail
          go_at_call 27
          generalize hV : ((((wo.alloc (.cells #[.string ⟨#[]⟩, .int .u8 0, .int .i64 0, .string ⟨#[49]⟩, .string ⟨#[]⟩] 40)).alloc (.cells #[.string ⟨#[]⟩, .int .u8 2, .int .i64 0, .string ⟨#[49]⟩, .string ⟨#[]⟩] 40)).alloc (.cells #[.string ⟨#[]⟩, .int .u8 2, .int .i64 0, .string ⟨#[49]⟩, .string ⟨#[57]⟩] 40)).alloc (.cells #[.string ⟨#[]⟩, .int .u8 2, .int .i64 0, .string ⟨#[49]⟩, .string ⟨#[56]⟩] 40)) = V at *
          generalize wo.heap.size = p at *
          clear hV
          obtain ⟨c0_0, c0_1, c0_2, c0_3, c0_4, c1_0, c1_1, c1_2, c1_3, c1_4, c2_0, c2_1, c2_2, c2_3, c2_4, c3_0, c3_1, c3_2, c3_3, c3_4, l0, l1, l2, l3, lp, hB⟩ := id S0
          refine (Q1.out _).mono ?_
          rintro e1 w1 ⟨rfl, h⟩
          have S1 := keep_sq S0 h
          clear S0 h Q1 c0_0 c0_1 c0_2 c0_3 c0_4 c1_0 c1_1 c1_2 c1_3 c1_4 c2_0 c2_1 c2_2 c2_3 c2_4 c3_0 c3_1 c3_2 c3_3 c3_4 l0 l1 l2 l3 lp hB
          obtain ⟨c0_0, c0_1, c0_2, c0_3, c0_4, c1_0, c1_1, c1_2, c1_3, c1_4, c2_0, c2_1, c2_2, c2_3, c2_4, c3_0, c3_1, c3_2, c3_3, c3_4, l0, l1, l2, l3, lp, hB⟩ := id S1
          go_wp2_with fail
          go_at_call 27
          refine (Q2.out _).mono ?_
          rintro e2 w2 ⟨rfl, h⟩
          have S2 := keep_sq S1 h
          clear c0_0 c0_1 c0_2 c0_3 c0_4 c1_0 c1_1 c1_2 c1_3 c1_4 c2_0 c2_1 c2_2 c2_3 c2_4 c3_0 c3_1 c3_2 c3_3 c3_4 l0 l1 l2 l3 lp hB
          clear S1 h
          obtain ⟨c0_0, c0_1, c0_2, c0_3, c0_4, c1_0, c1_1, c1_2, c1_3, c1_4, c2_0, c2_1, c2_2, c2_3, c2_4, c3_0, c3_1, c3_2, c3_3, c3_4, l0, l1, l2, l3, lp, hB⟩ := id S2
          clear Q2
          go_wp2_with fail
          go_at_call 28
          refine (Q3.out _).mono ?_
          rintro e3 w3 ⟨rfl, h⟩
          have S3 := keep_sq S2 h
          clear c0_0 c0_1 c0_2 c0_3 c0_4 c1_0 c1_1 c1_2 c1_3 c1_4 c2_0 c2_1 c2_2 c2_3 c2_4 c3_0 c3_1 c3_2 c3_3 c3_4 l0 l1 l2 l3 lp hB
          clear S2 h
          obtain ⟨c0_0, c0_1, c0_2, c0_3, c0_4, c1_0, c1_1, c1_2, c1_3, c1_4, c2_0, c2_1, c2_2, c2_3, c2_4, c3_0, c3_1, c3_2, c3_3, c3_4, l0, l1, l2, l3, lp, hB⟩ := id S3
          clear Q3
          go_wp2_with fail
          go_at_call 27
          refine (Q4.out _).mono ?_
          rintro e4 w4 ⟨rfl, h⟩
          have S4 := keep_sq S3 h
          clear c0_0 c0_1 c0_2 c0_3 c0_4 c1_0 c1_1 c1_2 c1_3 c1_4 c2_0 c2_1 c2_2 c2_3 c2_4 c3_0 c3_1 c3_2 c3_3 c3_4 l0 l1 l2 l3 lp hB
          clear S3 h
          obtain ⟨c0_0, c0_1, c0_2, c0_3, c0_4, c1_0, c1_1, c1_2, c1_3, c1_4, c2_0, c2_1, c2_2, c2_3, c2_4, c3_0, c3_1, c3_2, c3_3, c3_4, l0, l1, l2, l3, lp, hB⟩ := id S4
          clear Q4
          go_wp2_with fail
          go_at_call 27
          refine (Q5.out _).mono ?_
          rintro e5 w5 ⟨rfl, h⟩
          have S5 := keep_sq S4 h
          clear c0_0 c0_1 c0_2 c0_3 c0_4 c1_0 c1_1 c1_2 c1_3 c1_4 c2_0 c2_1 c2_2 c2_3 c2_4 c3_0 c3_1 c3_2 c3_3 c3_4 l0 l1 l2 l3 lp hB
          clear S4 h
          obtain ⟨c0_0, c0_1, c0_2, c0_3, c0_4, c1_0, c1_1, c1_2, c1_3, c1_4, c2_0, c2_1, c2_2, c2_3, c2_4, c3_0, c3_1, c3_2, c3_3, c3_4, l0, l1, l2, l3, lp, hB⟩ := id S5
          clear Q5
          go_wp2_with fail
          go_at_call 27
          refine (Q6.out _).mono ?_
          rintro e6 w6 ⟨rfl, h⟩
          have S6 := keep_sq S5 h
          clear c0_0 c0_1 c0_2 c0_3 c0_4 c1_0 c1_1 c1_2 c1_3 c1_4 c2_0 c2_1 c2_2 c2_3 c2_4 c3_0 c3_1 c3_2 c3_3 c3_4 l0 l1 l2 l3 lp hB
          clear S5 h
          obtain ⟨c0_0, c0_1, c0_2, c0_3, c0_4, c1_0, c1_1, c1_2, c1_3, c1_4, c2_0, c2_1, c2_2, c2_3, c2_4, c3_0, c3_1, c3_2, c3_3, c3_4, l0, l1, l2, l3, lp, hB⟩ := id S6
          clear Q6
          go_wp2_with fail
          go_at_call 28
          refine (Q7.out _).mono ?_
          rintro e7 w7 ⟨rfl, h⟩
          have S7 := keep_sq S6 h
          clear c0_0 c0_1 c0_2 c0_3 c0_4 c1_0 c1_1 c1_2 c1_3 c1_4 c2_0 c2_1 c2_2 c2_3 c2_4 c3_0 c3_1 c3_2 c3_3 c3_4 l0 l1 l2 l3 lp hB
          clear S6 h
          obtain ⟨c0_0, c0_1, c0_2, c0_3, c0_4, c1_0, c1_1, c1_2, c1_3, c1_4, c2_0, c2_1, c2_2, c2_3, c2_4, c3_0, c3_1, c3_2, c3_3, c3_4, l0, l1, l2, l3, lp, hB⟩ := id S7
          clear Q7
          go_wp2_with fail
          go_at_call 28
          refine (Q8.out _).mono ?_
          rintro e8 w8 ⟨rfl, h⟩
          have S8 := keep_sq S7 h
          clear c0_0 c0_1 c0_2 c0_3 c0_4 c1_0 c1_1 c1_2 c1_3 c1_4 c2_0 c2_1 c2_2 c2_3 c2_4 c3_0 c3_1 c3_2 c3_3 c3_4 l0 l1 l2 l3 lp hB
          clear S7 h
          obtain ⟨c0_0, c0_1, c0_2, c0_3, c0_4, c1_0, c1_1, c1_2, c1_3, c1_4, c2_0, c2_1, c2_2, c2_3, c2_4, c3_0, c3_1, c3_2, c3_3, c3_4, l0, l1, l2, l3, lp, hB⟩ := id S8
          clear Q8
          go_wp2_with fail
          go_at_call 29
          refine (AW.out _ hB).mono ?_
          rintro e9 w9 ⟨rfl, h⟩
          have S9 := keep_sq S8 h
          clear c0_0 c0_1 c0_2 c0_3 c0_4 c1_0 c1_1 c1_2 c1_3 c1_4 c2_0 c2_1 c2_2 c2_3 c2_4 c3_0 c3_1 c3_2 c3_3 c3_4 l0 l1 l2 l3 lp hB
          clear S8 h
          obtain ⟨c0_0, c0_1, c0_2, c0_3, c0_4, c1_0, c1_1, c1_2, c1_3, c1_4, c2_0, c2_1, c2_2, c2_3, c2_4, c3_0, c3_1, c3_2, c3_3, c3_4, l0, l1, l2, l3, lp, hB⟩ := id S9
          go_wp2_with fail
          go_ret
          exact ⟨rfl, hB⟩
end Go.Proofs.YtmmebheciolnoaaDoor
