/- SpRef, RowOpen, RowLaid, PkRow, EvPlain -/
import Derived.Test.YtcpjignlhlcnpaaDoorPkgNamesRowG07
import Derived.Test.YtcpjignlhlcnpaaDoorPkgNamesRowG01
import Derived.Test.YtcpjignlhlcnpaaDoorRows
import Derived.ProofKit
import Derived.OpenShut
import Derived.ShutString
import Derived.ChangeOld
import Derived.SizedLaws
import Derived.SliceStrings
import Derived.ChangeSame
import Derived.Lib.SmallJoins
import Derived.Lib.SplitLaws
import Derived.RegionTactic
import Derived.ChangeAlike
import Derived.Lib.ItoaNum
import Derived.Lib.AtoiAll
import Derived.Lib.IndexMore
set_option linter.unusedSimpArgs false
set_option linter.unusedVariables false
namespace Go.Proofs.YtcpjignlhlcnpaaDoor
section
/- Walks: span by the document. -/


open Go.RowKit Go.Shelf

structure Dp where
  name : Bytes
  op : Int
  evr : Evr
def Dp.val (d : Dp) : Value := .agg #[.string (bs d.name), .int .u8 d.op, .int .i64 d.evr.epoch, .string (bs d.evr.ver), .string (bs d.evr.rel)]

/-- the bits of an Op -/
def band (n m : Int) : Int := bits BinOp.and IntKind.u8 n m
/-- the bit that an Op needs of what is less, the same, greater -/
def sideI (c : Int) : Int := if c < 0 then 1 else if c = 0 then 2 else 4
def Evr.ok (e : Evr) : Prop := e.ver.length ≤ 1000000 ∧ e.rel.length ≤ 1000000
def meetP (a b : Dp) : Bool := a.op.tmod 8 == 0 || (b.op.tmod 8 == 0 || (let n := ecmp a.evr b.evr
  if n < 0 then band a.op 4 != 0 || band b.op 1 != 0 else if 0 < n then band a.op 1 != 0 || band b.op 4 != 0 else band (band a.op b.op) 7 != 0))
end
section
/- How the arguments of a statement are opened: strings, integers, slices of strings, as the form's reading gives them. -/









open Go.ChangeShapes Go.WideShapes Go.ChangeAt Go.RowKit

theorem own : ownKnob Tryd.prog.godebug = none := by kernel_rfl
section
variable {H : Type} {enc : TypeId × Value → H} {P : Program} {W : World} {held : Bool} {t e : TypeId} {d : DataW H} {p : List MemPlace}

end
end
section
/- How the arguments of the tied statements are opened: EVRs, dependencies. -/





open Go.ChangeShapes Go.WideShapes Go.ChangeAt Go.RowKit

def Evr.wf (e : Evr) : Prop := (Lit.int .i64 e.epoch).wf = true ∧ e.ver.length ≤ maxLen ∧ e.rel.length ≤ maxLen
def Dp.wf (d : Dp) : Prop := d.name.length ≤ maxLen ∧ (Lit.int .u8 d.op).wf = true ∧ d.evr.wf

section
variable {H : Type} {enc : TypeId × Value → H} {P : Program} {W : World} {held : Bool} {t ti ts tu te : TypeId} {f0 f1 f2 g0 g1 g2 : Field} {d : DataW H} {p : List MemPlace}

end
theorem u8_wf {n : Int} (h : (Lit.int .u8 n).wf = true) : 0 ≤ n ∧ n ≤ 255 := by simpa [Lit.wf, IntKind.min, IntKind.max, IntKind.signed, IntKind.bits] using h
end
section
/- Packages in memory: dependencies in a row, rich dependencies as trees. -/



open Go.RowKit
set_option linter.unusedVariables false

/-- a rich dependency as it lies: its kind, its dependency, where its parts lie, and these -/
inductive RV where
  | node (kind : Int) (d : Dp) (A : Option Addr) (cap : Nat) (args : List RV)
def RV.kind : RV → Int | .node k _ _ _ _ => k
def RV.dep : RV → Dp | .node _ d _ _ _ => d
def RV.addr : RV → Option Addr | .node _ _ A _ _ => A
def RV.cap : RV → Nat | .node _ _ _ c _ => c
def RV.args : RV → List RV | .node _ _ _ _ l => l
def encD (d : Dp) : List Value := [.string (bs d.name), .int .u8 d.op, .int .i64 d.evr.epoch, .string (bs d.evr.ver), .string (bs d.evr.rel)]
def encR (t : RV) : List Value := [.int .u8 t.kind, .string (bs t.dep.name), .int .u8 t.dep.op, .int .i64 t.dep.evr.epoch, .string (bs t.dep.evr.ver), .string (bs t.dep.evr.rel), .slice t.addr t.args.length t.cap]
/-- it lies in blocks below B -/
inductive RTree (B : Nat) (W : World) : RV → Prop where
  | mk {t : RV} : t.dep.wf → Rd encR 7 B t.addr t.cap t.args W → (∀ a ∈ t.args, RTree B W a) → RTree B W t
theorem RTree.wf {B : Nat} {W : World} {t : RV} (h : RTree B W t) : t.dep.wf := by cases h; assumption
theorem RTree.row {B : Nat} {W : World} {t : RV} (h : RTree B W t) : Rd encR 7 B t.addr t.cap t.args W := by cases h; assumption
theorem RTree.sub {B : Nat} {W : World} {t : RV} (h : RTree B W t) : ∀ a ∈ t.args, RTree B W a := by cases h; assumption
theorem RTree.keeps {B : Nat} {W W' : World} {t : RV} (h : RTree B W t) (hb : Below B W W') : RTree B W' t := by
  induction h with
  | mk hw hr _ ih => exact .mk hw (hr.below hb) ih
theorem RTree.more {B B' : Nat} {W : World} {t : RV} (h : RTree B W t) (hb : B ≤ B') : RTree B' W t := by
  induction h with
  | mk hw hr _ ih => exact .mk hw (hr.more hb) ih
/-- a row of rich dependencies -/
def RRow (B : Nat) (W : World) (A : Option Addr) (cap : Nat) (l : List RV) : Prop := Rd encR 7 B A cap l W ∧ ∀ t ∈ l, RTree B W t
theorem RRow.below {B : Nat} {W W' : World} {A : Option Addr} {cap : Nat} {l : List RV} (h : RRow B W A cap l) (hb : Below B W W') : RRow B W' A cap l := ⟨h.1.below hb, fun t ht => (h.2 t ht).keeps hb⟩
theorem RRow.more {B B' : Nat} {W : World} {A : Option Addr} {cap : Nat} {l : List RV} (h : RRow B W A cap l) (hb : B ≤ B') : RRow B' W A cap l := ⟨h.1.more hb, fun t ht => (h.2 t ht).more hb⟩
theorem Rd.cells {α : Type} {enc : α → List Value} {size B : Nat} {A : Option Addr} {cap : Nat} {l : List α} {w : World} (h : Rd enc size B A cap l w) {k : Nat} (hk : k < l.length) : ∃ b o, A = some ⟨b, o, none⟩ ∧ b < B ∧ ∀ i v, (enc l[k])[i]? = some v → w.cell? ⟨b, o + k * size + i, none⟩ = some v := by
  obtain ⟨b, o, e, hb, hc⟩ := h.2.2 k hk
  exact ⟨b, o, e, hb, fun i v hv => hc i v hv⟩
/-- the cells of a rich dependency in its row -/
theorem RRow.at_ {B : Nat} {W : World} {A : Option Addr} {cap : Nat} {l : List RV} (h : RRow B W A cap l) {k : Nat} (hk : k < l.length) : ∃ b o, A = some ⟨b, o, none⟩ ∧ b < B ∧ W.cell? ⟨b, o + k * 7, none⟩ = some (.int .u8 l[k].kind) ∧ W.cell? ⟨b, o + k * 7 + 1, none⟩ = some (.string (bs l[k].dep.name)) ∧ W.cell? ⟨b, o + k * 7 + 2, none⟩ = some (.int .u8 l[k].dep.op) ∧ W.cell? ⟨b, o + k * 7 + 3, none⟩ = some (.int .i64 l[k].dep.evr.epoch) ∧ W.cell? ⟨b, o + k * 7 + 4, none⟩ = some (.string (bs l[k].dep.evr.ver)) ∧ W.cell? ⟨b, o + k * 7 + 5, none⟩ = some (.string (bs l[k].dep.evr.rel)) ∧ W.cell? ⟨b, o + k * 7 + 6, none⟩ = some (.slice l[k].addr l[k].args.length l[k].cap) := by
  obtain ⟨b, o, e, hb, hc⟩ := h.1.cells hk
  exact ⟨b, o, e, hb, hc 0 _ rfl, hc 1 _ rfl, hc 2 _ rfl, hc 3 _ rfl, hc 4 _ rfl, hc 5 _ rfl, hc 6 _ rfl⟩
/-- the cells of a dependency in its row -/
theorem Rd.dep_at {B : Nat} {W : World} {A : Option Addr} {cap : Nat} {l : List Dp} (h : Rd encD 5 B A cap l W) {k : Nat} (hk : k < l.length) : ∃ b o, A = some ⟨b, o, none⟩ ∧ b < B ∧ W.cell? ⟨b, o + k * 5, none⟩ = some (.string (bs l[k].name)) ∧ W.cell? ⟨b, o + k * 5 + 1, none⟩ = some (.int .u8 l[k].op) ∧ W.cell? ⟨b, o + k * 5 + 2, none⟩ = some (.int .i64 l[k].evr.epoch) ∧ W.cell? ⟨b, o + k * 5 + 3, none⟩ = some (.string (bs l[k].evr.ver)) ∧ W.cell? ⟨b, o + k * 5 + 4, none⟩ = some (.string (bs l[k].evr.rel)) := by
  obtain ⟨b, o, e, hb, hc⟩ := h.cells hk
  exact ⟨b, o, e, hb, hc 0 _ rfl, hc 1 _ rfl, hc 2 _ rfl, hc 3 _ rfl, hc 4 _ rfl⟩
end
section
/- EVRs as texts, in plain terms: words, digits, what stands ahead of a byte and behind it; the EVR of a text. -/





open Go.RowKit

def okI (n : Int) : Bool := decide ((97 ≤ n ∧ n ≤ 122) ∨ (65 ≤ n ∧ n ≤ 90) ∨ (48 ≤ n ∧ n ≤ 57) ∨ n = 46 ∨ n = 95 ∨ n = 43 ∨ n = 126 ∨ n = 94)
def okc (c : UInt8) : Bool := okI (c.toNat : Int)
def wordB (l : Bytes) : Bool := decide (1 ≤ l.length) && (decide (l.length ≤ 64) && l.all okc)
def mayB (e : Evr) (dep : Bool) : Bool := decide (0 ≤ e.epoch) && (decide (e.epoch ≤ 2147483647) && (wordB e.ver && (wordB e.rel || (dep && e.rel.isEmpty))))
theorem word_iff {l : Bytes} : wordB l = true ↔ 1 ≤ l.length ∧ l.length ≤ 64 ∧ ∀ c ∈ l, okc c = true := by
  unfold wordB; simp [List.all_eq_true]
/- digits -/
/- what stands ahead of a byte, and behind it -/
/- the EVR of a text: as the program looks for it -/
/- the EVR of a text: as the document looks for it -/
end
end Go.Proofs.YtcpjignlhlcnpaaDoor
