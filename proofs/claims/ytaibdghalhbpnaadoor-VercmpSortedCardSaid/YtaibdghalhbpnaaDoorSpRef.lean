/- Walks: span by the document. -/
import Derived.Test.YtaibdghalhbpnaaDoorEvRef
namespace Go.Proofs.YtaibdghalhbpnaaDoor
open Go.RowKit Go.Shelf

structure Dp where
  name : Bytes
  op : Int
  evr : Evr
def Dp.val (d : Dp) : Value := .agg #[.string (bs d.name), .int .u8 d.op, .int .i64 d.evr.epoch, .string (bs d.evr.ver), .string (bs d.evr.rel)]

set_option maxRecDepth 100000 in
set_option maxHeartbeats 2000000 in
theorem rmay_any (n : Int) (w : World) : Calls Tryd.prog 33 #[.int .u8 n] w fun e w' => e = .returned (.bool (n == 0 || n == 1 || n == 2 || n == 3 || n == 4 || n == 6)) ∧ w = w' := by
  go_enter Tryd.func33, Tryd.ntmps33
  go_wp2
  all_goals (go_ret; exact ⟨ret_bool (by simp [*]), rfl⟩)
/-- the bits of an Op -/
def band (n m : Int) : Int := bits BinOp.and IntKind.u8 n m
/-- the bit that an Op needs of what is less, the same, greater -/
def sideI (c : Int) : Int := if c < 0 then 1 else if c = 0 then 2 else 4
def hasP (d : Dp) (e : Evr) : Bool := d.op.tmod 8 == 0 || band d.op (sideI (ecmp e d.evr)) != 0
def Evr.ok (e : Evr) : Prop := e.ver.length ≤ 1000000 ∧ e.rel.length ≤ 1000000
theorem new_dbox (w : World) (d : Dp) (e : Evr) : let W := (w.alloc (.cells #[.string (bs d.name), .int .u8 d.op, .int .i64 d.evr.epoch, .string (bs d.evr.ver), .string (bs d.evr.rel)] 25)).alloc (.cells #[.int .i64 e.epoch, .string (bs e.ver), .string (bs e.rel)] 23)
    W.cell? ⟨w.heap.size, 1, none⟩ = some (.int .u8 d.op) ∧ w.heap.size < W.heap.size ∧ Below w.heap.size w W :=
  ⟨(World.cell?_alloc_past _ _ _ (by simp)).trans ((World.cell?_alloc_at _ _ _ _ rfl).trans rfl), by simp; omega, ((Below.refl _ _).alloc (Nat.le_refl _) _).alloc (by simp) _⟩

set_option maxRecDepth 100000 in
set_option maxHeartbeats 2000000 in
theorem rhas_any (d : Dp) (a : Evr) (w : World) (hd : d.evr.ok) (ha : a.ok) : Calls Tryd.prog 28 #[d.val, a.val] w fun e w' => e = .returned (.bool (hasP d a)) ∧ Below w.heap.size w w' := by
  obtain ⟨q1, q2, q3⟩ := new_dbox w d a
  have C := Lib.hid (fun W => revr_any a d.evr W ha.1 hd.1 ha.2 hd.2)
  have H := Lib.hid (show hasP d a = (d.op.tmod 8 == 0 || bits BinOp.and IntKind.u8 d.op (sideI (ecmp a d.evr)) != 0) from rfl)
  generalize hasP d a = res at *
  unfold Evr.val at C
  unfold Dp.val Evr.val
  cases h1 : d.op.tmod 8 == 0 with
  | true =>
    go_enter Tryd.func28, Tryd.ntmps28
    go_wp2_with fail
    go_ret
    exact ⟨ret_bool (by rw [H.out, h1]; rfl), q3⟩
  | false =>
    go_enter Tryd.func28, Tryd.ntmps28
    go_wp2_with fail
    go_at_call 56
    generalize (w.alloc (.cells #[.string (bs d.name), .int .u8 d.op, .int .i64 d.evr.epoch, .string (bs d.evr.ver), .string (bs d.evr.rel)] 25)).alloc (.cells #[.int .i64 a.epoch, .string (bs a.ver), .string (bs a.rel)] 23) = W at *
    refine (C.out W).mono ?_
    rintro e w5 ⟨rfl, h⟩
    have c := (h.cell (p := ⟨w.heap.size, 1, none⟩) q2).trans q1
    have hB := q3.trans (h.mono q3.size)
    generalize ecmp a d.evr = n at *
    clear h q1 q2 q3
    rcases (show n < 0 ∨ n = 0 ∨ 0 < n by omega) with hn | hn | hn
    · have H2 := Lib.hid (show res = (bits BinOp.and IntKind.u8 d.op 1 != 0) by rw [H.out, h1]; simp [sideI, hn])
      go_wp2_with fail
      go_ret
      exact ⟨ret_bool H2.out.symm, hB⟩
    · have H2 := Lib.hid (show res = (bits BinOp.and IntKind.u8 d.op 2 != 0) by rw [H.out, h1]; simp [sideI, hn])
      subst hn
      go_wp2_with fail
      go_ret
      exact ⟨ret_bool H2.out.symm, hB⟩
    · have H2 := Lib.hid (show res = (bits BinOp.and IntKind.u8 d.op 4 != 0) by rw [H.out, h1]; simp [sideI, show ¬ n < 0 by omega, show ¬ n = 0 by omega])
      have hn1 : ¬ n < 0 := by omega
      have hn2 : ¬ n = 0 := by omega
      go_wp2_with fail
      go_ret
      exact ⟨ret_bool H2.out.symm, hB⟩

def meetP (a b : Dp) : Bool := a.op.tmod 8 == 0 || (b.op.tmod 8 == 0 || (let n := ecmp a.evr b.evr
  if n < 0 then band a.op 4 != 0 || band b.op 1 != 0 else if 0 < n then band a.op 1 != 0 || band b.op 4 != 0 else band (band a.op b.op) 7 != 0))
theorem new_2dbox (w : World) (d e : Dp) : let W := (w.alloc (.cells #[.string (bs d.name), .int .u8 d.op, .int .i64 d.evr.epoch, .string (bs d.evr.ver), .string (bs d.evr.rel)] 25)).alloc (.cells #[.string (bs e.name), .int .u8 e.op, .int .i64 e.evr.epoch, .string (bs e.evr.ver), .string (bs e.evr.rel)] 25)
    W.cell? ⟨w.heap.size, 1, none⟩ = some (.int .u8 d.op) ∧ W.cell? ⟨w.heap.size + 1, 1, none⟩ = some (.int .u8 e.op) ∧ w.heap.size + 1 < W.heap.size ∧ Below w.heap.size w W :=
  ⟨(World.cell?_alloc_past _ _ _ (by simp)).trans ((World.cell?_alloc_at _ _ _ _ rfl).trans rfl), (World.cell?_alloc_at _ _ _ _ (by simp)).trans rfl, by simp, ((Below.refl _ _).alloc (Nat.le_refl _) _).alloc (by simp) _⟩
set_option maxRecDepth 100000 in
set_option maxHeartbeats 2000000 in
theorem rmeet_any (a b : Dp) (w : World) (ha : a.evr.ok) (hb : b.evr.ok) : Calls Tryd.prog 26 #[a.val, b.val] w fun e w' => e = .returned (.bool (meetP a b)) ∧ Below w.heap.size w w' := by
  obtain ⟨q1, q1b, q2, q3⟩ := new_2dbox w a b
  have C := Lib.hid (fun W => revr_any a.evr b.evr W ha.1 hb.1 ha.2 hb.2)
  have H := Lib.hid (show meetP a b = (a.op.tmod 8 == 0 || (b.op.tmod 8 == 0 || (if ecmp a.evr b.evr < 0 then bits BinOp.and IntKind.u8 a.op 4 != 0 || bits BinOp.and IntKind.u8 b.op 1 != 0 else if 0 < ecmp a.evr b.evr then bits BinOp.and IntKind.u8 a.op 1 != 0 || bits BinOp.and IntKind.u8 b.op 4 != 0 else bits BinOp.and IntKind.u8 (bits BinOp.and IntKind.u8 a.op b.op) 7 != 0))) from rfl)
  generalize meetP a b = res at *
  unfold Evr.val at C
  unfold Dp.val
  cases h1 : a.op.tmod 8 == 0 with
  | true =>
    go_enter Tryd.func26, Tryd.ntmps26
    go_wp2_with fail
    go_ret
    exact ⟨ret_bool (by rw [H.out, h1]; rfl), q3⟩
  | false =>
    cases h2 : b.op.tmod 8 == 0 with
    | true =>
      go_enter Tryd.func26, Tryd.ntmps26
      go_wp2_with fail
      go_ret
      exact ⟨ret_bool (by rw [H.out, h1, h2]; rfl), q3⟩
    | false =>
      go_enter Tryd.func26, Tryd.ntmps26
      go_wp2_with fail
      go_at_call 56
      generalize (w.alloc (.cells #[.string (bs a.name), .int .u8 a.op, .int .i64 a.evr.epoch, .string (bs a.evr.ver), .string (bs a.evr.rel)] 25)).alloc (.cells #[.string (bs b.name), .int .u8 b.op, .int .i64 b.evr.epoch, .string (bs b.evr.ver), .string (bs b.evr.rel)] 25) = W at *
      refine (C.out W).mono ?_
      rintro e w5 ⟨rfl, h⟩
      have c := (h.cell (p := ⟨w.heap.size, 1, none⟩) (show w.heap.size < W.heap.size by omega)).trans q1
      have cb := (h.cell (p := ⟨w.heap.size + 1, 1, none⟩) q2).trans q1b
      have hB := q3.trans (h.mono q3.size)
      have H1 := Lib.hid (H.out.trans (by rw [h1, h2, Bool.false_or, Bool.false_or]))
      generalize ecmp a.evr b.evr = n at *
      clear h q1 q2 q3 q1b H
      rcases (show n < 0 ∨ n = 0 ∨ 0 < n by omega) with hn | hn | hn
      · have H2 := Lib.hid (show res = (bits BinOp.and IntKind.u8 a.op 4 != 0 || bits BinOp.and IntKind.u8 b.op 1 != 0) by rw [H1.out, if_pos hn])
        cases e1 : bits BinOp.and IntKind.u8 a.op 4 != 0
        all_goals
          go_wp2_with fail
          go_ret
          exact ⟨ret_bool (by rw [H2.out, e1]; rfl), hB⟩
      · have H2 := Lib.hid (show res = (bits BinOp.and IntKind.u8 (bits BinOp.and IntKind.u8 a.op b.op) 7 != 0) by rw [H1.out, if_neg (by omega), if_neg (by omega)])
        subst hn
        go_wp2_with fail
        go_ret
        exact ⟨ret_bool H2.out.symm, hB⟩
      · have H2 := Lib.hid (show res = (bits BinOp.and IntKind.u8 a.op 1 != 0 || bits BinOp.and IntKind.u8 b.op 4 != 0) by rw [H1.out, if_neg (by omega), if_pos hn])
        have hn1 : ¬ n < 0 := by omega
        cases e1 : bits BinOp.and IntKind.u8 a.op 1 != 0
        all_goals
          go_wp2_with fail
          go_ret
          exact ⟨ret_bool (by rw [H2.out, e1]; rfl), hB⟩
end Go.Proofs.YtaibdghalhbpnaaDoor
