/- Packages in memory: dependencies in a row, rich dependencies as trees. -/
import Derived.Test.YtpnnhhgojijlbaaDoorRowLaid
import Derived.Test.YtpnnhhgojijlbaaDoorTRow
namespace Go.Proofs.YtpnnhhgojijlbaaDoor
open Go.RowKit
set_option linter.unusedVariables false

/-- a rich dependency as it lies: its kind, its dependency, where its parts lie, and these -/
inductive RV where
  | node (kind : Int) (d : Dp) (A : Option Addr) (cap : Nat) (args : List RV)
def RV.kind : RV → Int | .node k _ _ _ _ => k
def RV.dep : RV → Dp | .node _ d _ _ _ => d
def RV.addr : RV → Option Addr | .node _ _ A _ _ => A
def RV.cap : RV → Nat | .node _ _ _ c _ => c
def RV.args : RV → List RV | .node _ _ _ _ l => l
def encD (d : Dp) : List Value := [.string (bs d.name), .int .u8 d.op, .int .i64 d.evr.epoch, .string (bs d.evr.ver), .string (bs d.evr.rel)]
def encR (t : RV) : List Value := [.int .u8 t.kind, .string (bs t.dep.name), .int .u8 t.dep.op, .int .i64 t.dep.evr.epoch, .string (bs t.dep.evr.ver), .string (bs t.dep.evr.rel), .slice t.addr t.args.length t.cap]
/-- it lies in blocks below B -/
inductive RTree (B : Nat) (W : World) : RV → Prop where
  | mk {t : RV} : t.dep.wf → Rd encR 7 B t.addr t.cap t.args W → (∀ a ∈ t.args, RTree B W a) → RTree B W t
theorem RTree.wf {B : Nat} {W : World} {t : RV} (h : RTree B W t) : t.dep.wf := by cases h; assumption
theorem RTree.row {B : Nat} {W : World} {t : RV} (h : RTree B W t) : Rd encR 7 B t.addr t.cap t.args W := by cases h; assumption
theorem RTree.sub {B : Nat} {W : World} {t : RV} (h : RTree B W t) : ∀ a ∈ t.args, RTree B W a := by cases h; assumption
theorem RTree.keeps {B : Nat} {W W' : World} {t : RV} (h : RTree B W t) (hb : Below B W W') : RTree B W' t := by
  induction h with
  | mk hw hr _ ih => exact .mk hw (hr.below hb) ih
theorem RTree.more {B B' : Nat} {W : World} {t : RV} (h : RTree B W t) (hb : B ≤ B') : RTree B' W t := by
  induction h with
  | mk hw hr _ ih => exact .mk hw (hr.more hb) ih
/-- a row of rich dependencies -/
def RRow (B : Nat) (W : World) (A : Option Addr) (cap : Nat) (l : List RV) : Prop := Rd encR 7 B A cap l W ∧ ∀ t ∈ l, RTree B W t
theorem RRow.below {B : Nat} {W W' : World} {A : Option Addr} {cap : Nat} {l : List RV} (h : RRow B W A cap l) (hb : Below B W W') : RRow B W' A cap l := ⟨h.1.below hb, fun t ht => (h.2 t ht).keeps hb⟩
theorem RRow.more {B B' : Nat} {W : World} {A : Option Addr} {cap : Nat} {l : List RV} (h : RRow B W A cap l) (hb : B ≤ B') : RRow B' W A cap l := ⟨h.1.more hb, fun t ht => (h.2 t ht).more hb⟩
theorem RRow.sub {B : Nat} {W : World} {A : Option Addr} {cap : Nat} {l : List RV} (h : RRow B W A cap l) {k : Nat} (hk : k < l.length) : RRow B W l[k].addr l[k].cap l[k].args := ⟨(h.2 _ (List.getElem_mem hk)).row, (h.2 _ (List.getElem_mem hk)).sub⟩
theorem Rd.cells {α : Type} {enc : α → List Value} {size B : Nat} {A : Option Addr} {cap : Nat} {l : List α} {w : World} (h : Rd enc size B A cap l w) {k : Nat} (hk : k < l.length) : ∃ b o, A = some ⟨b, o, none⟩ ∧ b < B ∧ ∀ i v, (enc l[k])[i]? = some v → w.cell? ⟨b, o + k * size + i, none⟩ = some v := by
  obtain ⟨b, o, e, hb, hc⟩ := h.2.2 k hk
  exact ⟨b, o, e, hb, fun i v hv => hc i v hv⟩
/-- the cells of a rich dependency in its row -/
theorem RRow.at_ {B : Nat} {W : World} {A : Option Addr} {cap : Nat} {l : List RV} (h : RRow B W A cap l) {k : Nat} (hk : k < l.length) : ∃ b o, A = some ⟨b, o, none⟩ ∧ b < B ∧ W.cell? ⟨b, o + k * 7, none⟩ = some (.int .u8 l[k].kind) ∧ W.cell? ⟨b, o + k * 7 + 1, none⟩ = some (.string (bs l[k].dep.name)) ∧ W.cell? ⟨b, o + k * 7 + 2, none⟩ = some (.int .u8 l[k].dep.op) ∧ W.cell? ⟨b, o + k * 7 + 3, none⟩ = some (.int .i64 l[k].dep.evr.epoch) ∧ W.cell? ⟨b, o + k * 7 + 4, none⟩ = some (.string (bs l[k].dep.evr.ver)) ∧ W.cell? ⟨b, o + k * 7 + 5, none⟩ = some (.string (bs l[k].dep.evr.rel)) ∧ W.cell? ⟨b, o + k * 7 + 6, none⟩ = some (.slice l[k].addr l[k].args.length l[k].cap) := by
  obtain ⟨b, o, e, hb, hc⟩ := h.1.cells hk
  exact ⟨b, o, e, hb, hc 0 _ rfl, hc 1 _ rfl, hc 2 _ rfl, hc 3 _ rfl, hc 4 _ rfl, hc 5 _ rfl, hc 6 _ rfl⟩
/-- the cells of a dependency in its row -/
theorem Rd.dep_at {B : Nat} {W : World} {A : Option Addr} {cap : Nat} {l : List Dp} (h : Rd encD 5 B A cap l W) {k : Nat} (hk : k < l.length) : ∃ b o, A = some ⟨b, o, none⟩ ∧ b < B ∧ W.cell? ⟨b, o + k * 5, none⟩ = some (.string (bs l[k].name)) ∧ W.cell? ⟨b, o + k * 5 + 1, none⟩ = some (.int .u8 l[k].op) ∧ W.cell? ⟨b, o + k * 5 + 2, none⟩ = some (.int .i64 l[k].evr.epoch) ∧ W.cell? ⟨b, o + k * 5 + 3, none⟩ = some (.string (bs l[k].evr.ver)) ∧ W.cell? ⟨b, o + k * 5 + 4, none⟩ = some (.string (bs l[k].evr.rel)) := by
  obtain ⟨b, o, e, hb, hc⟩ := h.cells hk
  exact ⟨b, o, e, hb, hc 0 _ rfl, hc 1 _ rfl, hc 2 _ rfl, hc 3 _ rfl, hc 4 _ rfl⟩
end Go.Proofs.YtpnnhhgojijlbaaDoor
