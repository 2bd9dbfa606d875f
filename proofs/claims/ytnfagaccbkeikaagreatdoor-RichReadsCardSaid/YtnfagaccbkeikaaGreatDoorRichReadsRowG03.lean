/- TRow, PkRow -/
import Derived.Test.YtnfagaccbkeikaaGreatDoorRichReadsRowG01
import Derived.Test.YtnfagaccbkeikaaGreatDoorRichReadsRowG02
import Derived.Lib.SplitLaws
import Derived.RegionTactic
import Derived.ChangeAlike
namespace Go.Proofs.YtnfagaccbkeikaaGreatDoor
section
/- A slice of texts, wherever it lies. -/





open Go.RowKit

/-- a slice at A reads as these texts -/
def TR (W : World) (A : Option Addr) (D : List ByteArray) : Prop := ∀ (k : Nat) (hk : k < D.length), ∃ b o, A = some ⟨b, o, none⟩ ∧ b < W.heap.size ∧ W.cell? ⟨b, o + k, none⟩ = some (.string D[k])
theorem TR.calls {W W' : World} {A : Option Addr} {D : List ByteArray} (h : TR W A D) (hb : Below W.heap.size W W') : TR W' A D := fun k hk => by
  obtain ⟨b, o, e, hl, hc⟩ := h k hk
  exact ⟨b, o, e, Nat.lt_of_lt_of_le hl hb.size, (hb.cell (p := ⟨b, o + k, none⟩) hl).trans hc⟩
theorem TR.below {w W : World} {A : Option Addr} {D : List ByteArray} (h : TR w A D) (hb : Below w.heap.size w W) : TR W A D := h.calls hb
theorem TR.nil (W : World) (A : Option Addr) : TR W A [] := fun k hk => absurd hk (by simp)
theorem TR.of_rd {W : World} {A : Option Addr} {cap : Nat} {D : List ByteArray} (h : Rd (fun s => [Value.string s]) 1 W.heap.size A cap D W) : TR W A D := fun k hk => by
  obtain ⟨b, o, e, hl, hc⟩ := h.at1 (f := fun s => Value.string s) (fun _ => rfl) hk
  exact ⟨b, o, e, hl, hc⟩
theorem TR.of_own {W : World} {base : Nat} {e : TypeId} {v : Value} {D : List ByteArray} (h : Own (fun s => [Value.string s]) 1 base e v D W) : ∃ A c, v = .slice A D.length c ∧ TR W A D := by
  obtain ⟨A, cap, ev, hr⟩ := Own.rd h (fun _ => rfl)
  exact ⟨A, cap, ev, TR.of_rd hr⟩
theorem TR.new (w : World) (D : List ByteArray) (e : TypeId) : TR (w.alloc (.cells (D.map Value.string).toArray e)) (some ⟨w.heap.size, 0, none⟩) D := fun k hk =>
  ⟨w.heap.size, 0, rfl, by simp, (World.cell?_alloc_at _ _ _ _ rfl).trans (by simp [List.getElem?_eq_getElem hk])⟩
theorem TR.one {W : World} {A : Option Addr} {x : ByteArray} (h : TR W A [x]) : ∃ b o, A = some ⟨b, o, none⟩ ∧ b < W.heap.size ∧ W.cell? ⟨b, o, none⟩ = some (.string x) := by
  obtain ⟨b, o, e, hl, hc⟩ := h 0 (by simp)
  exact ⟨b, o, e, hl, hc⟩
theorem TR.three {W : World} {A : Option Addr} {x y z : ByteArray} (h : TR W A [x, y, z]) : ∃ b o, A = some ⟨b, o, none⟩ ∧ b < W.heap.size ∧ W.cell? ⟨b, o, none⟩ = some (.string x) ∧ W.cell? ⟨b, o + 1, none⟩ = some (.string y) ∧ W.cell? ⟨b, o + 2, none⟩ = some (.string z) := by
  obtain ⟨b, o, e, hl, hc⟩ := h 0 (by simp)
  obtain ⟨b1, o1, e1, _, hc1⟩ := h 1 (by simp)
  obtain ⟨b2, o2, e2, _, hc2⟩ := h 2 (by simp)
  rw [e] at e1 e2
  simp only [Option.some.injEq, Addr.mk.injEq, and_true] at e1 e2
  obtain ⟨rfl, rfl⟩ := e1
  obtain ⟨rfl, rfl⟩ := e2
  exact ⟨b, o, e, hl, hc, hc1, hc2⟩
end
section
/- Packages in memory: dependencies in a row, rich dependencies as trees. -/



open Go.RowKit
set_option linter.unusedVariables false

/-- a rich dependency as it lies: its kind, its dependency, where its parts lie, and these -/
inductive RV where
  | node (kind : Int) (d : Dp) (A : Option Addr) (cap : Nat) (args : List RV)
def RV.kind : RV → Int | .node k _ _ _ _ => k
def RV.dep : RV → Dp | .node _ d _ _ _ => d
def RV.addr : RV → Option Addr | .node _ _ A _ _ => A
def RV.cap : RV → Nat | .node _ _ _ c _ => c
def RV.args : RV → List RV | .node _ _ _ _ l => l
def encR (t : RV) : List Value := [.int .u8 t.kind, .string (bs t.dep.name), .int .u8 t.dep.op, .int .i64 t.dep.evr.epoch, .string (bs t.dep.evr.ver), .string (bs t.dep.evr.rel), .slice t.addr t.args.length t.cap]
/-- it lies in blocks below B -/
inductive RTree (B : Nat) (W : World) : RV → Prop where
  | mk {t : RV} : t.dep.wf → Rd encR 7 B t.addr t.cap t.args W → (∀ a ∈ t.args, RTree B W a) → RTree B W t
theorem RTree.wf {B : Nat} {W : World} {t : RV} (h : RTree B W t) : t.dep.wf := by cases h; assumption
theorem RTree.row {B : Nat} {W : World} {t : RV} (h : RTree B W t) : Rd encR 7 B t.addr t.cap t.args W := by cases h; assumption
theorem RTree.sub {B : Nat} {W : World} {t : RV} (h : RTree B W t) : ∀ a ∈ t.args, RTree B W a := by cases h; assumption
theorem RTree.keeps {B : Nat} {W W' : World} {t : RV} (h : RTree B W t) (hb : Below B W W') : RTree B W' t := by
  induction h with
  | mk hw hr _ ih => exact .mk hw (hr.below hb) ih
theorem RTree.more {B B' : Nat} {W : World} {t : RV} (h : RTree B W t) (hb : B ≤ B') : RTree B' W t := by
  induction h with
  | mk hw hr _ ih => exact .mk hw (hr.more hb) ih
/-- a row of rich dependencies -/
def RRow (B : Nat) (W : World) (A : Option Addr) (cap : Nat) (l : List RV) : Prop := Rd encR 7 B A cap l W ∧ ∀ t ∈ l, RTree B W t
theorem RRow.below {B : Nat} {W W' : World} {A : Option Addr} {cap : Nat} {l : List RV} (h : RRow B W A cap l) (hb : Below B W W') : RRow B W' A cap l := ⟨h.1.below hb, fun t ht => (h.2 t ht).keeps hb⟩
theorem RRow.more {B B' : Nat} {W : World} {A : Option Addr} {cap : Nat} {l : List RV} (h : RRow B W A cap l) (hb : B ≤ B') : RRow B' W A cap l := ⟨h.1.more hb, fun t ht => (h.2 t ht).more hb⟩
theorem RRow.sub {B : Nat} {W : World} {A : Option Addr} {cap : Nat} {l : List RV} (h : RRow B W A cap l) {k : Nat} (hk : k < l.length) : RRow B W l[k].addr l[k].cap l[k].args := ⟨(h.2 _ (List.getElem_mem hk)).row, (h.2 _ (List.getElem_mem hk)).sub⟩
theorem Rd.cells {α : Type} {enc : α → List Value} {size B : Nat} {A : Option Addr} {cap : Nat} {l : List α} {w : World} (h : Rd enc size B A cap l w) {k : Nat} (hk : k < l.length) : ∃ b o, A = some ⟨b, o, none⟩ ∧ b < B ∧ ∀ i v, (enc l[k])[i]? = some v → w.cell? ⟨b, o + k * size + i, none⟩ = some v := by
  obtain ⟨b, o, e, hb, hc⟩ := h.2.2 k hk
  exact ⟨b, o, e, hb, fun i v hv => hc i v hv⟩
/-- the cells of a rich dependency in its row -/
theorem RRow.at_ {B : Nat} {W : World} {A : Option Addr} {cap : Nat} {l : List RV} (h : RRow B W A cap l) {k : Nat} (hk : k < l.length) : ∃ b o, A = some ⟨b, o, none⟩ ∧ b < B ∧ W.cell? ⟨b, o + k * 7, none⟩ = some (.int .u8 l[k].kind) ∧ W.cell? ⟨b, o + k * 7 + 1, none⟩ = some (.string (bs l[k].dep.name)) ∧ W.cell? ⟨b, o + k * 7 + 2, none⟩ = some (.int .u8 l[k].dep.op) ∧ W.cell? ⟨b, o + k * 7 + 3, none⟩ = some (.int .i64 l[k].dep.evr.epoch) ∧ W.cell? ⟨b, o + k * 7 + 4, none⟩ = some (.string (bs l[k].dep.evr.ver)) ∧ W.cell? ⟨b, o + k * 7 + 5, none⟩ = some (.string (bs l[k].dep.evr.rel)) ∧ W.cell? ⟨b, o + k * 7 + 6, none⟩ = some (.slice l[k].addr l[k].args.length l[k].cap) := by
  obtain ⟨b, o, e, hb, hc⟩ := h.1.cells hk
  exact ⟨b, o, e, hb, hc 0 _ rfl, hc 1 _ rfl, hc 2 _ rfl, hc 3 _ rfl, hc 4 _ rfl, hc 5 _ rfl, hc 6 _ rfl⟩
end
end Go.Proofs.YtnfagaccbkeikaaGreatDoor
