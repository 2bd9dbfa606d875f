/- StOfAt -/
import Derived.Test.YteobmfpbgnmffaaGreatDoorT35
set_option linter.unusedVariables false
set_option linter.unusedSimpArgs false
namespace Go.Proofs.YteobmfpbgnmffaaGreatDoor
open Go.RowKit Go.Shelf
theorem qI2 {P : Program} (t e : TypeId) (i : TypeInfo) (z : Value) (ht : P.underlying t = some (.slice e)) (hi : P.info? e = some i) (hz : i.zero = some z)
  (kl kc : IntKind) (n : Nat) (hbytes : i.bytes * n <= 281474976710656) (h63 : n <= 9223372036854775807) (w : World) :
  (Instr.makeSlice t (.int kl (n : Int)) (.int kc (n : Int))).run P w = .ok (.slice (some ⟨w.heap.size, 0, none⟩) n n) (w.alloc (.cells (madeCells z.cells (n * i.size)) e)) := by
 have hb : (i.bytes : Int) * (n : Int) <= 281474976710656 := by
  have h : ((i.bytes * n : Nat) : Int) <= 281474976710656 := by omega
  rwa [Int.natCast_mul] at h
 have hr := run_make (P := P) w t e i z ht hi hz kl kc n n (by omega) (by omega) hb (by omega);simp only [Int.toNat_natCast] at hr;exact hr
theorem qRP : (Tryz.prog.info? 4).map (fun i => (i.zero, i.size, i.bytes)) = some (some (.bool false), 1, 1) := by kernel_rfl
theorem qNV (n : Nat) (hn : n <= 1000000) (w : World) : (Instr.makeSlice 131 (.int .i64 (n : Int)) (.int .i64 (n : Int))).run Tryz.prog w = .ok (.slice (some ⟨w.heap.size, 0, none⟩) n n) (w.alloc (.cells (madeCells #[.bool false] n) 4)) := by
 obtain ⟨i0, hi, hz0, hz1, hz2⟩ := info_parts qRP;have h := qI2 (P := Tryz.prog) 131 4 i0 (.bool false) Tryz.underlying131 hi hz0 .i64 .i64 n (by rw [hz2]; omega) (by omega) w;rw [hz1, Nat.mul_one] at h;exact h
def BRow (rb n : Nat) (f : Nat -> Bool) (W : World) : Prop := ∀ i, i < n -> W.cell? ⟨rb, i, none⟩ = some (.bool (f i)) /\ W.frozen? ⟨rb, i, none⟩ = false
theorem BRow.then {rb n : Nat} {f : Nat -> Bool} {W W' : World} (h : BRow rb n f W) (hb : Below W.heap.size W W') : BRow rb n f W' := fun i hi => by
 obtain ⟨h1, h2⟩ := h i hi;have hl := World.block_lt_of_cell? W _ h1;exact ⟨(hb.cell hl).trans h1, (hb.frozen hl).trans h2⟩
theorem BRow.past {rb n B : Nat} {f : Nat -> Bool} {W W' : World} (h : BRow rb n f W) (hB : rb < B) (hb : Below B W W') : BRow rb n f W' := fun i hi =>
 ⟨(hb.cell (p := ⟨rb, i, none⟩) hB).trans (h i hi).1, (hb.frozen (p := ⟨rb, i, none⟩) hB).trans (h i hi).2⟩
theorem BRow.made (n : Nat) (W : World) (t : TypeId) : BRow W.heap.size n (fun _ => false) (W.alloc (.cells (madeCells #[.bool false] n) t)) := fun i hi =>
 ⟨(World.cell?_alloc_at _ _ _ _ rfl).trans (by simp [madeCells, hi, Nat.mod_one]), by simp [go_sem]⟩
theorem BRow.set {rb n : Nat} {f : Nat -> Bool} {W : World} (h : BRow rb n f W) {k : Nat} (hk : k < n) (b : Bool) : BRow rb n (fun i => if i = k then b else f i) (W.setCell ⟨rb, k, none⟩ (.bool b)) := fun i hi => by
 refine ⟨?_, (World.frozen?_setCell _ _ _ _).trans (h i hi).2⟩;show _ = some (Value.bool (if i = k then b else f i));by_cases e : i = k
 ·subst e; rw [if_pos rfl]; exact qAS (h i hi).1
 ·rw [if_neg e];exact (qA0 (fun h2 => e (by simp only [Addr.mk.injEq] at h2; exact h2.2.1.symm))).trans (h i hi).1
theorem BRow.congr {rb n : Nat} {f f' : Nat -> Bool} {W : World} (h : BRow rb n f W) (hf : ∀ i, i < n -> f i = f' i) : BRow rb n f' W := fun i hi => by rw [<- hf i hi]; exact h i hi
structure OfAt (w : World) (P cb rb gb hz n : Nat) (f : Nat -> Bool) (W : World) : Prop where
 old : Below w.heap.size w W
 p2 : W.cell? ⟨w.heap.size, 0, none⟩ = some (.pointer (some ⟨P, 0, none⟩))
 c0 : W.cell? ⟨cb, 0, none⟩ = some (.pointer (some ⟨P, 0, none⟩))
 c1 : W.cell? ⟨cb, 1, none⟩ = some (.slice (some ⟨rb, 0, none⟩) n n)
 g0 : W.cell? ⟨gb, 0, none⟩ = some (.pointer (some ⟨cb, 0, none⟩))
 row : BRow rb n f W
 hz : w.heap.size < cb /\ w.heap.size < rb /\ w.heap.size < gb /\ cb < hz /\ rb < hz /\ gb < hz /\ hz <= W.heap.size
section
variable {w W W' : World} {P cb rb gb hz n : Nat} {f : Nat -> Bool}
theorem OfAt.past (h : OfAt w P cb rb gb hz n f W) (hb : Below hz W W') : OfAt w P cb rb gb hz n f W' := by
 obtain ⟨z1, z2, z3, z4, z5, z6, z7⟩ := h.hz;exact ⟨h.old.trans (hb.mono (by omega)), (hb.cell (p := ⟨w.heap.size, 0, none⟩) (by show w.heap.size < hz; omega)).trans h.p2, (hb.cell (p := ⟨cb, 0, none⟩) z4).trans h.c0, (hb.cell (p := ⟨cb, 1, none⟩) z4).trans h.c1, (hb.cell (p := ⟨gb, 0, none⟩) z6).trans h.g0, h.row.past z5 hb, z1, z2, z3, z4, z5, z6, Nat.le_trans z7 hb.size⟩
theorem OfAt.then (h : OfAt w P cb rb gb hz n f W) (hb : Below W.heap.size W W') : OfAt w P cb rb gb hz n f W' := h.past (hb.mono h.hz.2.2.2.2.2.2)
theorem OfAt.set (h : OfAt w P cb rb gb hz n f W) {k : Nat} (hk : k < n) : OfAt w P cb rb gb hz n (fun i => if i = k then true else f i) (W.setCell ⟨rb, k, none⟩ (.bool true)) := by
 obtain ⟨z1, z2, z3, z4, z5, z6, z7⟩ := h.hz;have h0 := (h.row 0 (by omega)).1;have n1 : cb ≠ rb := fun e => by have := h.c0; rw [e, h0] at this; cases this
 have n2 : gb ≠ rb := fun e => by have := h.g0; rw [e, h0] at this; cases this
 have ne : ∀ b j, b ≠ rb -> (⟨rb, k, none⟩ : Addr) ≠ ⟨b, j, none⟩ := fun b j hb e => by simp only [Addr.mk.injEq] at e; exact hb e.1.symm
 exact ⟨h.old.setCell (p := ⟨rb, k, none⟩) (by show w.heap.size <= rb; omega) _, (qA0 (ne _ _ (by omega))).trans h.p2, (qA0 (ne _ _ n1)).trans h.c0, (qA0 (ne _ _ n1)).trans h.c1, (qA0 (ne _ _ n2)).trans h.g0, h.row.set hk true, z1, z2, z3, z4, z5, z6, by simpa [World.setCell] using z7⟩
theorem OfAt.congr {f' : Nat -> Bool} (h : OfAt w P cb rb gb hz n f W) (hf : ∀ i, i < n -> f i = f' i) : OfAt w P cb rb gb hz n f' W := ⟨h.old, h.p2, h.c0, h.c1, h.g0, h.row.congr hf, h.hz⟩
theorem OfAt.ch {I0 : Nat} {L : List Pr} {I : Int} (h : OfAt w P cb rb gb hz n f W) (hp : Pool P I L w) (hI : I = (I0 : Int)) {inb : List Bool} (hi : ∀ i, i < n -> f i = inb.getD i false) (X : Nat -> Prop) (hX : ∀ b, X b -> hz <= b) : ChAt cb P I0 n inb X W := by
 obtain ⟨z1, z2, z3, z4, z5, z6, z7⟩ := h.hz;have hP := (hp.then (h.old)).at_
 refine ⟨h.c0, ⟨some ⟨rb, 0, none⟩, n, h.c1, fun j hj => ⟨rb, 0, rfl, fun hx => by have := hX _ hx; omega, ?_⟩⟩, ?_, fun hx => by have := hX _ hx; omega, fun hx => by have := hX _ hx; have := hp.at_.lt; omega⟩
 ·rw [Nat.zero_add, <- hi j hj]; exact (h.row j hj).1
 ·rw [<- hI]; exact hP.c1
end
theorem KX.grown {X : Nat -> Prop} {W W' : World} {row : Option Nat} (h : W.grownBy W' row) (hr : ∀ j, row = some j -> X j) : KX X W W' := ⟨fun a v ha hv => by
 have hl := World.block_lt_of_cell? W _ hv;have hb := h.block a.block hl (fun e => ha (hr _ e.symm));exact ⟨(World.cell?_of_block hb).trans hv, World.frozen?_of_block hb⟩, h.size⟩
structure OutAt (base ob : Nat) (D : List (Int × Int)) (W : World) : Prop where
 row : ∃ v, W.cell? ⟨ob, 0, none⟩ = some v /\ Own qBG 2 base 61 v D W
 fz : W.frozen? ⟨ob, 0, none⟩ = false
 hz : ob < base /\ base <= W.heap.size
theorem OutAt.then {base ob : Nat} {D : List (Int × Int)} {W W' : World} (h : OutAt base ob D W) (hb : Below W.heap.size W W') : OutAt base ob D W' := by
 obtain ⟨v, h1, h2⟩ := h.row;have hl := World.block_lt_of_cell? W _ h1;exact ⟨⟨v, (hb.cell hl).trans h1, h2.below hb lR⟩, (hb.frozen hl).trans h.fz, h.hz.1, Nat.le_trans h.hz.2 hb.size⟩
theorem OutAt.more {base ob : Nat} {D : List (Int × Int)} {W W1 : World} {x : Int × Int} {v v' : Value} (hz : ob < base /\ base <= W.heap.size) (hf : W.frozen? ⟨ob, 0, none⟩ = false) (hc : W.cell? ⟨ob, 0, none⟩ = some v) (ho : Own qBG 2 base 61 v D W) (hg : W.grownBy W1 v.ownBlock) (ho' : Own qBG 2 base 61 v' (D ++ [x]) W1) :
  (W1.cell? ⟨ob, 0, none⟩ = some v /\ W1.frozen? ⟨ob, 0, none⟩ = false) /\ OutAt base ob (D ++ [x]) (W1.setCell ⟨ob, 0, none⟩ v') /\ KX (fun b => b = ob \/ base <= b) W (W1.setCell ⟨ob, 0, none⟩ v') /\ KeepsOthers W (W1.setCell ⟨ob, 0, none⟩ v') /\ Below ob W (W1.setCell ⟨ob, 0, none⟩ v') := by
 have hr : ∀ (u : Value) (E : List (Int × Int)) (U : World), Own qBG 2 base 61 u E U -> ∀ j, u.ownBlock = some j -> base <= j := fun u E U h j e => (World.ownsRow.lt h j e).1;have hl := World.block_lt_of_cell? W _ hc;have hb := hg.block ob hl (fun e => by have := hr _ _ _ ho _ e.symm; omega);have c1 : W1.cell? ⟨ob, 0, none⟩ = some v := (World.cell?_of_block hb).trans hc;have f1 : W1.frozen? ⟨ob, 0, none⟩ = false := (World.frozen?_of_block hb).trans hf;refine ⟨⟨c1, f1⟩, ⟨⟨v', qAS c1, ?_⟩, (World.frozen?_setCell _ _ _ _).trans f1, hz.1, ?_⟩, ?_, ?_, ?_⟩
 ·exact World.ownsRow.kept ho' (grownBy_setCell' W1 ob v') (.inr (fun e => by have := hr _ _ _ ho' _ e; omega))
 ·have := hg.size; simp [World.setCell]; omega
 ·exact (KX.grown hg fun j e => .inr (hr _ _ _ ho j e)).trans (KX.set _ (.inl rfl) _ _)
 ·refine (KeepsOthers.of_grownBy hg fun j o ej hj => ?_).trans (KeepsOthers.setCell _ _ _);rcases ho.2 with ⟨rfl, _⟩ | ⟨g, cap, cur, rfl, _, hgb, _⟩
  ·simp [Value.ownBlock] at ej
  ·obtain rfl : g = j := by simpa [Value.ownBlock] using ej
   rw [hgb] at hj; cases hj; rfl
 ·exact ((Below.refl ob W).grown hg (by omega) fun j e => by have := hr _ _ _ ho j e; omega).setCell (p := ⟨ob, 0, none⟩) lR _
