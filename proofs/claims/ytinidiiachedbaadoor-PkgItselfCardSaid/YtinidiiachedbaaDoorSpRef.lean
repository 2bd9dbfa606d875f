/- Walks: span by the document. -/
import Derived.Test.YtinidiiachedbaaDoorEvRef
namespace Go.Proofs.YtinidiiachedbaaDoor
open Go.RowKit Go.Shelf

structure Dp where
  name : Bytes
  op : Int
  evr : Evr
def Dp.val (d : Dp) : Value := .agg #[.string (bs d.name), .int .u8 d.op, .int .i64 d.evr.epoch, .string (bs d.evr.ver), .string (bs d.evr.rel)]

/-- the bits of an Op -/
def band (n m : Int) : Int := bits BinOp.and IntKind.u8 n m
/-- the bit that an Op needs of what is less, the same, greater -/
def sideI (c : Int) : Int := if c < 0 then 1 else if c = 0 then 2 else 4
def hasP (d : Dp) (e : Evr) : Bool := d.op.tmod 8 == 0 || band d.op (sideI (ecmp e d.evr)) != 0
def Evr.ok (e : Evr) : Prop := e.ver.length ≤ 1000000 ∧ e.rel.length ≤ 1000000
theorem new_dbox (w : World) (d : Dp) (e : Evr) : let W := (w.alloc (.cells #[.string (bs d.name), .int .u8 d.op, .int .i64 d.evr.epoch, .string (bs d.evr.ver), .string (bs d.evr.rel)] 37)).alloc (.cells #[.int .i64 e.epoch, .string (bs e.ver), .string (bs e.rel)] 35)
    W.cell? ⟨w.heap.size, 1, none⟩ = some (.int .u8 d.op) ∧ w.heap.size < W.heap.size ∧ Below w.heap.size w W :=
  ⟨(World.cell?_alloc_past _ _ _ (by simp)).trans ((World.cell?_alloc_at _ _ _ _ rfl).trans rfl), by simp; omega, ((Below.refl _ _).alloc (Nat.le_refl _) _).alloc (by simp) _⟩

def meetP (a b : Dp) : Bool := a.op.tmod 8 == 0 || (b.op.tmod 8 == 0 || (let n := ecmp a.evr b.evr
  if n < 0 then band a.op 4 != 0 || band b.op 1 != 0 else if 0 < n then band a.op 1 != 0 || band b.op 4 != 0 else band (band a.op b.op) 7 != 0))
theorem new_2dbox (w : World) (d e : Dp) : let W := (w.alloc (.cells #[.string (bs d.name), .int .u8 d.op, .int .i64 d.evr.epoch, .string (bs d.evr.ver), .string (bs d.evr.rel)] 37)).alloc (.cells #[.string (bs e.name), .int .u8 e.op, .int .i64 e.evr.epoch, .string (bs e.evr.ver), .string (bs e.evr.rel)] 37)
    W.cell? ⟨w.heap.size, 1, none⟩ = some (.int .u8 d.op) ∧ W.cell? ⟨w.heap.size + 1, 1, none⟩ = some (.int .u8 e.op) ∧ w.heap.size + 1 < W.heap.size ∧ Below w.heap.size w W :=
  ⟨(World.cell?_alloc_past _ _ _ (by simp)).trans ((World.cell?_alloc_at _ _ _ _ rfl).trans rfl), (World.cell?_alloc_at _ _ _ _ (by simp)).trans rfl, by simp, ((Below.refl _ _).alloc (Nat.le_refl _) _).alloc (by simp) _⟩
end Go.Proofs.YtinidiiachedbaaDoor
