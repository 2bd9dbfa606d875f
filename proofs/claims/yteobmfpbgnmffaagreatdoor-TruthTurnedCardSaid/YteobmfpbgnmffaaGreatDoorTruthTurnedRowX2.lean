import Derived.Test.YteobmfpbgnmffaaGreatDoorTruthTurnedRowX1
set_option linter.unusedSimpArgs false
set_option linter.unusedVariables false
/- TrTurn -/
set_option linter.unusedSimpArgs false
set_option linter.unusedVariables false
open List (getElem?_toArray getElem?_cons_zero getElem?_cons_succ setIfInBounds_toArray set_cons_zero set_cons_succ take_succ_cons take_zero)
/- Walk: TruthTurned. -/




namespace Go.Proofs.YteobmfpbgnmffaaGreatDoor
open Go.RowKit Go.Shelf
set_option linter.unusedVariables false

theorem rpnilT (B : Nat) (W : World) : RpRow B W none 0 [] := by
 constructor
 ·exact Rd.nil_ (Nat.zero_le _)
 all_goals (intro x hx; cases hx)
theorem pnilT (B : Nat) (W : World) : PRow B W none 0 [] := ⟨Rd.nil_ (Nat.zero_le _), by intro x hx; cases hx⟩
def tu6 (T m sc : Nat) (SA : Option Addr) (Ra Rb Rc : RV) (x y z : Bool) (i : Nat) (v : Value) (W : World) : Prop := match i with
 | 0 => v = .pointer (some ⟨T, 0, none⟩)
 | 1 => v = .slice SA m sc
 | 2 => v = .agg #[.int .u8 Ra.kind, .string (bs Ra.dep.name), .int .u8 Ra.dep.op, .int .i64 Ra.dep.evr.epoch, .string (bs Ra.dep.evr.ver), .string (bs Ra.dep.evr.rel), .slice Ra.addr Ra.args.length Ra.cap]
 | 3 => v = .bool x
 | 4 => v = .pointer (some ⟨T, 0, none⟩)
 | 5 => v = .slice SA m sc
 | 6 => v = .agg #[.int .u8 Rb.kind, .string (bs Rb.dep.name), .int .u8 Rb.dep.op, .int .i64 Rb.dep.evr.epoch, .string (bs Rb.dep.evr.ver), .string (bs Rb.dep.evr.rel), .slice Rb.addr Rb.args.length Rb.cap]
 | 7 => v = .bool y
 | 8 => v = .pointer (some ⟨T, 0, none⟩)
 | 9 => v = .slice SA m sc
 | 10 => v = .agg #[.int .u8 Rc.kind, .string (bs Rc.dep.name), .int .u8 Rc.dep.op, .int .i64 Rc.dep.evr.epoch, .string (bs Rc.dep.evr.ver), .string (bs Rc.dep.evr.rel), .slice Rc.addr Rc.args.length Rc.cap]
 | 11 => v = .bool z
 | 12 => v = .bool x
 | 13 => v = .bool y
 | 14 => v = .bool z
 | _ => False
theorem tu6_mono (T m sc : Nat) (SA : Option Addr) (Ra Rb Rc : RV) (x y z : Bool) : ∀ i v w w', tu6 T m sc SA Ra Rb Rc x y z i v w → Below w.heap.size w w' → tu6 T m sc SA Ra Rb Rc x y z i v w' := by
 intro i v w w' h hb
 match i, h with
 | 0, h => exact h
 | 1, h => exact h
 | 2, h => exact h
 | 3, h => exact h
 | 4, h => exact h
 | 5, h => exact h
 | 6, h => exact h
 | 7, h => exact h
 | 8, h => exact h
 | 9, h => exact h
 | 10, h => exact h
 | 11, h => exact h
 | 12, h => exact h
 | 13, h => exact h
 | 14, h => exact h
 | (k + 15), h => exact h.elim
def tu7 (Ra Rb Rc : RV) (x y z : Bool) (i : Nat) (v : Value) (W : World) : Prop := match i with
 | 0 => v = .agg #[.int .u8 Ra.kind, .string (bs Ra.dep.name), .int .u8 Ra.dep.op, .int .i64 Ra.dep.evr.epoch, .string (bs Ra.dep.evr.ver), .string (bs Ra.dep.evr.rel), .slice Ra.addr Ra.args.length Ra.cap]
 | 1 => v = .agg #[.int .u8 Rb.kind, .string (bs Rb.dep.name), .int .u8 Rb.dep.op, .int .i64 Rb.dep.evr.epoch, .string (bs Rb.dep.evr.ver), .string (bs Rb.dep.evr.rel), .slice Rb.addr Rb.args.length Rb.cap]
 | 2 => v = .agg #[.int .u8 Rc.kind, .string (bs Rc.dep.name), .int .u8 Rc.dep.op, .int .i64 Rc.dep.evr.epoch, .string (bs Rc.dep.evr.ver), .string (bs Rc.dep.evr.rel), .slice Rc.addr Rc.args.length Rc.cap]
 | 3 => ArgsAt [Ra, Rb, Rc] v W
 | 4 => OfR 2 [Ra, Rb, Rc] v W
 | 5 => v = .bool x
 | 6 => v = .bool x
 | 7 => v = cond x (.bool y) undef
 | 8 => v = .bool (x && y)
 | 9 => v = .bool (x && y)
 | 10 => v = cond (x && y) (.bool z) undef
 | 11 => v = .bool (x && y && z)
 | 12 => OfP 2 [Ra, Rb, Rc] (x && y && z) v W
 | 13 => v = .agg #[.int .u8 Rc.kind, .string (bs Rc.dep.name), .int .u8 Rc.dep.op, .int .i64 Rc.dep.evr.epoch, .string (bs Rc.dep.evr.ver), .string (bs Rc.dep.evr.rel), .slice Rc.addr Rc.args.length Rc.cap]
 | 14 => v = .agg #[.int .u8 Ra.kind, .string (bs Ra.dep.name), .int .u8 Ra.dep.op, .int .i64 Ra.dep.evr.epoch, .string (bs Ra.dep.evr.ver), .string (bs Ra.dep.evr.rel), .slice Ra.addr Ra.args.length Ra.cap]
 | 15 => v = .agg #[.int .u8 Rb.kind, .string (bs Rb.dep.name), .int .u8 Rb.dep.op, .int .i64 Rb.dep.evr.epoch, .string (bs Rb.dep.evr.ver), .string (bs Rb.dep.evr.rel), .slice Rb.addr Rb.args.length Rb.cap]
 | 16 => ArgsAt [Rc, Ra, Rb] v W
 | 17 => OfR 2 [Rc, Ra, Rb] v W
 | 18 => v = .bool x
 | 19 => v = .bool x
 | 20 => v = cond x (.bool y) undef
 | 21 => v = .bool (x && y)
 | 22 => v = .bool (x && y)
 | 23 => v = cond (x && y) (.bool z) undef
 | 24 => v = .bool (x && y && z)
 | 25 => OfP 2 [Rc, Ra, Rb] (x && y && z) v W
 | 26 => v = .agg #[.int .u8 Rb.kind, .string (bs Rb.dep.name), .int .u8 Rb.dep.op, .int .i64 Rb.dep.evr.epoch, .string (bs Rb.dep.evr.ver), .string (bs Rb.dep.evr.rel), .slice Rb.addr Rb.args.length Rb.cap]
 | 27 => v = .agg #[.int .u8 Rc.kind, .string (bs Rc.dep.name), .int .u8 Rc.dep.op, .int .i64 Rc.dep.evr.epoch, .string (bs Rc.dep.evr.ver), .string (bs Rc.dep.evr.rel), .slice Rc.addr Rc.args.length Rc.cap]
 | 28 => v = .agg #[.int .u8 Ra.kind, .string (bs Ra.dep.name), .int .u8 Ra.dep.op, .int .i64 Ra.dep.evr.epoch, .string (bs Ra.dep.evr.ver), .string (bs Ra.dep.evr.rel), .slice Ra.addr Ra.args.length Ra.cap]
 | 29 => ArgsAt [Rb, Rc, Ra] v W
 | 30 => OfR 3 [Rb, Rc, Ra] v W
 | 31 => v = .bool x
 | 32 => v = .bool x
 | 33 => v = cond x undef (.bool y)
 | 34 => v = .bool (x || y)
 | 35 => v = .bool (x || y)
 | 36 => v = cond (x || y) undef (.bool z)
 | 37 => v = .bool (x || y || z)
 | 38 => OfP 3 [Rb, Rc, Ra] (x || y || z) v W
 | 39 => v = .agg #[.int .u8 Ra.kind, .string (bs Ra.dep.name), .int .u8 Ra.dep.op, .int .i64 Ra.dep.evr.epoch, .string (bs Ra.dep.evr.ver), .string (bs Ra.dep.evr.rel), .slice Ra.addr Ra.args.length Ra.cap]
 | 40 => v = .agg #[.int .u8 Rb.kind, .string (bs Rb.dep.name), .int .u8 Rb.dep.op, .int .i64 Rb.dep.evr.epoch, .string (bs Rb.dep.evr.ver), .string (bs Rb.dep.evr.rel), .slice Rb.addr Rb.args.length Rb.cap]
 | 41 => ArgsAt [Ra, Rb] v W
 | 42 => OfR 4 [Ra, Rb] v W
 | 43 => v = .bool x
 | 44 => v = .bool x
 | 45 => v = cond x undef (.bool y)
 | 46 => v = cond x undef (.bool !y)
 | 47 => v = .bool (x || !y)
 | 48 => OfP 4 [Ra, Rb] (x || !y) v W
 | 49 => v = .agg #[.int .u8 Ra.kind, .string (bs Ra.dep.name), .int .u8 Ra.dep.op, .int .i64 Ra.dep.evr.epoch, .string (bs Ra.dep.evr.ver), .string (bs Ra.dep.evr.rel), .slice Ra.addr Ra.args.length Ra.cap]
 | 50 => v = .agg #[.int .u8 Rb.kind, .string (bs Rb.dep.name), .int .u8 Rb.dep.op, .int .i64 Rb.dep.evr.epoch, .string (bs Rb.dep.evr.ver), .string (bs Rb.dep.evr.rel), .slice Rb.addr Rb.args.length Rb.cap]
 | 51 => ArgsAt [Ra, Rb] v W
 | 52 => OfR 5 [Ra, Rb] v W
 | 53 => v = .bool x
 | 54 => v = .bool x
 | 55 => v = cond x (.bool y) undef
 | 56 => v = cond x (.bool !y) undef
 | 57 => v = .bool (x && !y)
 | 58 => OfP 5 [Ra, Rb] (x && !y) v W
 | 59 => v = .agg #[.int .u8 Ra.kind, .string (bs Ra.dep.name), .int .u8 Ra.dep.op, .int .i64 Ra.dep.evr.epoch, .string (bs Ra.dep.evr.ver), .string (bs Ra.dep.evr.rel), .slice Ra.addr Ra.args.length Ra.cap]
 | 60 => v = .agg #[.int .u8 Rb.kind, .string (bs Rb.dep.name), .int .u8 Rb.dep.op, .int .i64 Rb.dep.evr.epoch, .string (bs Rb.dep.evr.ver), .string (bs Rb.dep.evr.rel), .slice Rb.addr Rb.args.length Rb.cap]
 | 61 => v = .agg #[.int .u8 Rc.kind, .string (bs Rc.dep.name), .int .u8 Rc.dep.op, .int .i64 Rc.dep.evr.epoch, .string (bs Rc.dep.evr.ver), .string (bs Rc.dep.evr.rel), .slice Rc.addr Rc.args.length Rc.cap]
 | 62 => ArgsAt [Ra, Rb, Rc] v W
 | 63 => OfR 4 [Ra, Rb, Rc] v W
 | 64 => v = .bool y
 | 65 => v = .bool y
 | 66 => v = cond y (.bool x) undef
 | 67 => v = .bool (y && x)
 | 68 => v = .bool (y && x)
 | 69 => v = cond (y && x) undef (.bool y)
 | 70 => v = cond (y && x) undef (.bool !y)
 | 71 => v = cond (y && x) undef (.bool !y)
 | 72 => v = cond (!(y && x) && !y) (.bool z) undef
 | 73 => v = cond (y && x) undef (.bool (!y && z))
 | 74 => v = .bool (y && x || !y && z)
 | 75 => OfP 4 [Ra, Rb, Rc] (y && x || !y && z) v W
 | 76 => v = .agg #[.int .u8 Rc.kind, .string (bs Rc.dep.name), .int .u8 Rc.dep.op, .int .i64 Rc.dep.evr.epoch, .string (bs Rc.dep.evr.ver), .string (bs Rc.dep.evr.rel), .slice Rc.addr Rc.args.length Rc.cap]
 | 77 => v = .agg #[.int .u8 Rb.kind, .string (bs Rb.dep.name), .int .u8 Rb.dep.op, .int .i64 Rb.dep.evr.epoch, .string (bs Rb.dep.evr.ver), .string (bs Rb.dep.evr.rel), .slice Rb.addr Rb.args.length Rb.cap]
 | 78 => v = .agg #[.int .u8 Ra.kind, .string (bs Ra.dep.name), .int .u8 Ra.dep.op, .int .i64 Ra.dep.evr.epoch, .string (bs Ra.dep.evr.ver), .string (bs Ra.dep.evr.rel), .slice Ra.addr Ra.args.length Ra.cap]
 | 79 => ArgsAt [Rc, Rb, Ra] v W
 | 80 => OfR 5 [Rc, Rb, Ra] v W
 | 81 => v = .bool y
 | 82 => v = .bool y
 | 83 => v = cond y (.bool x) undef
 | 84 => v = .bool (y && x)
 | 85 => v = .bool (y && x)
 | 86 => v = cond (y && x) undef (.bool y)
 | 87 => v = cond (y && x) undef (.bool !y)
 | 88 => v = cond (y && x) undef (.bool !y)
 | 89 => v = cond (!(y && x) && !y) (.bool z) undef
 | 90 => v = cond (y && x) undef (.bool (!y && z))
 | 91 => v = .bool (y && x || !y && z)
 | 92 => OfP 5 [Rc, Rb, Ra] (y && x || !y && z) v W
 | 93 => PairsAt Ra Rb Rc x y z v W
 | 94 => PairsAt Ra Rb Rc x y z v W
 | _ => False
theorem tu7_mono (Ra Rb Rc : RV) (x y z : Bool) : ∀ i v w w', tu7 Ra Rb Rc x y z i v w → Below w.heap.size w w' → tu7 Ra Rb Rc x y z i v w' := by
 intro i v w w' h hb
 match i, h with
 | 0, h => exact h
 | 1, h => exact h
 | 2, h => exact h
 | 3, h => exact h.then hb
 | 4, h => exact h.then hb
 | 5, h => exact h
 | 6, h => exact h
 | 7, h => exact h
 | 8, h => exact h
 | 9, h => exact h
 | 10, h => exact h
 | 11, h => exact h
 | 12, h => exact h.then hb
 | 13, h => exact h
 | 14, h => exact h
 | 15, h => exact h
 | 16, h => exact h.then hb
 | 17, h => exact h.then hb
 | 18, h => exact h
 | 19, h => exact h
 | 20, h => exact h
 | 21, h => exact h
 | 22, h => exact h
 | 23, h => exact h
 | 24, h => exact h
 | 25, h => exact h.then hb
 | 26, h => exact h
 | 27, h => exact h
 | 28, h => exact h
 | 29, h => exact h.then hb
 | 30, h => exact h.then hb
 | 31, h => exact h
 | 32, h => exact h
 | 33, h => exact h
 | 34, h => exact h
 | 35, h => exact h
 | 36, h => exact h
 | 37, h => exact h
 | 38, h => exact h.then hb
 | 39, h => exact h
 | 40, h => exact h
 | 41, h => exact h.then hb
 | 42, h => exact h.then hb
 | 43, h => exact h
 | 44, h => exact h
 | 45, h => exact h
 | 46, h => exact h
 | 47, h => exact h
 | 48, h => exact h.then hb
 | 49, h => exact h
 | 50, h => exact h
 | 51, h => exact h.then hb
 | 52, h => exact h.then hb
 | 53, h => exact h
 | 54, h => exact h
 | 55, h => exact h
 | 56, h => exact h
 | 57, h => exact h
 | 58, h => exact h.then hb
 | 59, h => exact h
 | 60, h => exact h
 | 61, h => exact h
 | 62, h => exact h.then hb
 | 63, h => exact h.then hb
 | 64, h => exact h
 | 65, h => exact h
 | 66, h => exact h
 | 67, h => exact h
 | 68, h => exact h
 | 69, h => exact h
 | 70, h => exact h
 | 71, h => exact h
 | 72, h => exact h
 | 73, h => exact h
 | 74, h => exact h
 | 75, h => exact h.then hb
 | 76, h => exact h
 | 77, h => exact h
 | 78, h => exact h
 | 79, h => exact h.then hb
 | 80, h => exact h.then hb
 | 81, h => exact h
 | 82, h => exact h
 | 83, h => exact h
 | 84, h => exact h
 | 85, h => exact h
 | 86, h => exact h
 | 87, h => exact h
 | 88, h => exact h
 | 89, h => exact h
 | 90, h => exact h
 | 91, h => exact h
 | 92, h => exact h.then hb
 | 93, h => exact h.then hb
 | 94, h => exact h.then hb
 | (k + 95), h => exact h.elim
def tu11T (T m sc b oo k : Nat) (SA : Option Addr) (R : RV) (r : Bool) (i : Nat) (v : Value) (W : World) : Prop := match i with
 | 0 => v = .slice (some ⟨b, oo, none⟩) 7 7
 | 1 => v = .int .i64 (k : Int)
 | 2 => v = .pointer (some ⟨b, oo + k * 8, none⟩)
 | 3 => v = .pointer (some ⟨b, oo + k * 8, none⟩)
 | 4 => v = .agg #[.int .u8 R.kind, .string (bs R.dep.name), .int .u8 R.dep.op, .int .i64 R.dep.evr.epoch, .string (bs R.dep.evr.ver), .string (bs R.dep.evr.rel), .slice R.addr R.args.length R.cap]
 | 5 => v = .bool true
 | 6 => v = .bool true
 | 7 => v = .pointer (some ⟨T, 0, none⟩)
 | 8 => v = .slice SA m sc
 | 9 => v = .slice (some ⟨b, oo, none⟩) 7 7
 | 10 => v = .int .i64 (k : Int)
 | 11 => v = .pointer (some ⟨b, oo + k * 8, none⟩)
 | 12 => v = .pointer (some ⟨b, oo + k * 8, none⟩)
 | 13 => v = .agg #[.int .u8 R.kind, .string (bs R.dep.name), .int .u8 R.dep.op, .int .i64 R.dep.evr.epoch, .string (bs R.dep.evr.ver), .string (bs R.dep.evr.rel), .slice R.addr R.args.length R.cap]
 | 14 => v = .bool r
 | 15 => v = .slice (some ⟨b, oo, none⟩) 7 7
 | 16 => v = .int .i64 (k : Int)
 | 17 => v = .pointer (some ⟨b, oo + k * 8, none⟩)
 | 18 => v = .pointer (some ⟨b, oo + k * 8 + 7, none⟩)
 | 19 => v = .bool r
 | 20 => v = .bool false
 | 21 => v = .bool false
 | _ => False
theorem tu11T_mono (T m sc b oo k : Nat) (SA : Option Addr) (R : RV) (r : Bool) : ∀ i v w w', tu11T T m sc b oo k SA R r i v w → Below w.heap.size w w' → tu11T T m sc b oo k SA R r i v w' := by
 intro i v w w' h hb
 match i, h with
 | 0, h => exact h
 | 1, h => exact h
 | 2, h => exact h
 | 3, h => exact h
 | 4, h => exact h
 | 5, h => exact h
 | 6, h => exact h
 | 7, h => exact h
 | 8, h => exact h
 | 9, h => exact h
 | 10, h => exact h
 | 11, h => exact h
 | 12, h => exact h
 | 13, h => exact h
 | 14, h => exact h
 | 15, h => exact h
 | 16, h => exact h
 | 17, h => exact h
 | 18, h => exact h
 | 19, h => exact h
 | 20, h => exact h
 | 21, h => exact h
 | (k + 22), h => exact h.elim
def tu11F (T m sc b oo k : Nat) (SA : Option Addr) (R : RV) (r : Bool) (i : Nat) (v : Value) (W : World) : Prop := match i with
 | 0 => v = .slice (some ⟨b, oo, none⟩) 7 7
 | 1 => v = .int .i64 (k : Int)
 | 2 => v = .pointer (some ⟨b, oo + k * 8, none⟩)
 | 3 => v = .pointer (some ⟨b, oo + k * 8, none⟩)
 | 4 => v = .agg #[.int .u8 R.kind, .string (bs R.dep.name), .int .u8 R.dep.op, .int .i64 R.dep.evr.epoch, .string (bs R.dep.evr.ver), .string (bs R.dep.evr.rel), .slice R.addr R.args.length R.cap]
 | 5 => v = .bool false
 | 6 => v = .bool false
 | 7 => v = undef
 | 8 => v = undef
 | 9 => v = undef
 | 10 => v = undef
 | 11 => v = undef
 | 12 => v = undef
 | 13 => v = undef
 | 14 => v = undef
 | 15 => v = undef
 | 16 => v = undef
 | 17 => v = undef
 | 18 => v = undef
 | 19 => v = undef
 | 20 => v = undef
 | 21 => v = .bool false
 | _ => False
theorem tu11F_mono (T m sc b oo k : Nat) (SA : Option Addr) (R : RV) (r : Bool) : ∀ i v w w', tu11F T m sc b oo k SA R r i v w → Below w.heap.size w w' → tu11F T m sc b oo k SA R r i v w' := by
 intro i v w w' h hb
 match i, h with
 | 0, h => exact h
 | 1, h => exact h
 | 2, h => exact h
 | 3, h => exact h
 | 4, h => exact h
 | 5, h => exact h
 | 6, h => exact h
 | 7, h => exact h
 | 8, h => exact h
 | 9, h => exact h
 | 10, h => exact h
 | 11, h => exact h
 | 12, h => exact h
 | 13, h => exact h
 | 14, h => exact h
 | 15, h => exact h
 | 16, h => exact h
 | 17, h => exact h
 | 18, h => exact h
 | 19, h => exact h
 | 20, h => exact h
 | 21, h => exact h
 | (k + 22), h => exact h.elim
def tu13 (T m sc : Nat) (SA : Option Addr) (Ra Rb Rc : RV) (q : Bool) (i : Nat) (v : Value) (W : World) : Prop := match i with
 | 0 => v = .pointer (some ⟨T, 0, none⟩)
 | 1 => v = .slice SA m sc
 | 2 => v = .agg #[.int .u8 Ra.kind, .string (bs Ra.dep.name), .int .u8 Ra.dep.op, .int .i64 Ra.dep.evr.epoch, .string (bs Ra.dep.evr.ver), .string (bs Ra.dep.evr.rel), .slice Ra.addr Ra.args.length Ra.cap]
 | 3 => v = .agg #[.int .u8 Rb.kind, .string (bs Rb.dep.name), .int .u8 Rb.dep.op, .int .i64 Rb.dep.evr.epoch, .string (bs Rb.dep.evr.ver), .string (bs Rb.dep.evr.rel), .slice Rb.addr Rb.args.length Rb.cap]
 | 4 => v = .agg #[.int .u8 Rc.kind, .string (bs Rc.dep.name), .int .u8 Rc.dep.op, .int .i64 Rc.dep.evr.epoch, .string (bs Rc.dep.evr.ver), .string (bs Rc.dep.evr.rel), .slice Rc.addr Rc.args.length Rc.cap]
 | 5 => ArgsAt [Ra, Rb, Rc] v W
 | 6 => OfR 6 [Ra, Rb, Rc] v W
 | 7 => v = .bool q
 | 8 => v = .pointer (some ⟨T, 0, none⟩)
 | 9 => v = .slice SA m sc
 | 10 => v = .agg #[.int .u8 Rc.kind, .string (bs Rc.dep.name), .int .u8 Rc.dep.op, .int .i64 Rc.dep.evr.epoch, .string (bs Rc.dep.evr.ver), .string (bs Rc.dep.evr.rel), .slice Rc.addr Rc.args.length Rc.cap]
 | 11 => v = .agg #[.int .u8 Rb.kind, .string (bs Rb.dep.name), .int .u8 Rb.dep.op, .int .i64 Rb.dep.evr.epoch, .string (bs Rb.dep.evr.ver), .string (bs Rb.dep.evr.rel), .slice Rb.addr Rb.args.length Rb.cap]
 | 12 => v = .agg #[.int .u8 Ra.kind, .string (bs Ra.dep.name), .int .u8 Ra.dep.op, .int .i64 Ra.dep.evr.epoch, .string (bs Ra.dep.evr.ver), .string (bs Ra.dep.evr.rel), .slice Ra.addr Ra.args.length Ra.cap]
 | 13 => ArgsAt [Rc, Rb, Ra] v W
 | 14 => OfR 6 [Rc, Rb, Ra] v W
 | 15 => v = .bool q
 | 16 => v = .bool true
 | 17 => v = .bool true
 | _ => False
theorem tu13_mono (T m sc : Nat) (SA : Option Addr) (Ra Rb Rc : RV) (q : Bool) : ∀ i v w w', tu13 T m sc SA Ra Rb Rc q i v w → Below w.heap.size w w' → tu13 T m sc SA Ra Rb Rc q i v w' := by
 intro i v w w' h hb
 match i, h with
 | 0, h => exact h
 | 1, h => exact h
 | 2, h => exact h
 | 3, h => exact h
 | 4, h => exact h
 | 5, h => exact h.then hb
 | 6, h => exact h.then hb
 | 7, h => exact h
 | 8, h => exact h
 | 9, h => exact h
 | 10, h => exact h
 | 11, h => exact h
 | 12, h => exact h
 | 13, h => exact h.then hb
 | 14, h => exact h.then hb
 | 15, h => exact h
 | 16, h => exact h
 | 17, h => exact h
 | (k + 18), h => exact h.elim
set_option maxRecDepth 100000 in
set_option maxHeartbeats 16000000 in
theorem truthTurned_row (w : World) (hI : WhIn w) (RA : Option Addr) (rc : Nat) (repos : List Rp) (hr : RpRow w.heap.size w RA rc repos) (hrq : ∀ r ∈ repos, ∀ p ∈ r.pk, PkQ w p) (IA : Option Addr) (ic : Nat) (ins : List Pk) (hi : PRow w.heap.size w IA ic ins) (hiq : ∀ p ∈ ins, PkQ w p) (SA : Option Addr) (sc : Nat) (S : List Int) (hS : Rd encI 1 w.heap.size SA sc S w ∧ (∀ z ∈ S, (Lit.int .i64 z).wf = true) ∧ S.length ≤ 1000000000000000) (Ra : RV) (hRa : RTree w.heap.size w Ra) (Rb : RV) (hRb : RTree w.heap.size w Rb) (Rc : RV) (hRc : RTree w.heap.size w Rc) : Calls Tryz.prog 7 #[.slice RA repos.length rc, .slice IA ins.length ic, .slice SA S.length sc, Ra.val, Rb.val, Rc.val] w fun e w' => e = .returned (.bool true) ∧ Below w.heap.size w w' := by
 obtain ⟨hS, hSw, hSl⟩ := hS
 obtain ⟨V0, e0⟩ : ∃ W, W = w.alloc (.cells #[.int .u8 Ra.kind, .string (bs Ra.dep.name), .int .u8 Ra.dep.op, .int .i64 Ra.dep.evr.epoch, .string (bs Ra.dep.evr.ver), .string (bs Ra.dep.evr.rel), .slice Ra.addr Ra.args.length Ra.cap] 39) := ⟨_, rfl⟩
 have b0 : Below w.heap.size w V0 := by rw [e0]; exact (Below.refl _ _).alloc (Nat.le_refl _) _
 have s0 : V0.heap.size = w.heap.size + 1 := by rw [e0, World.size_alloc]
 have x0 : RBx (w.heap.size) Ra V0 := by have q := RBx.new Ra w; rw [e0]; exact q
 obtain ⟨V1, e1⟩ : ∃ W, W = V0.alloc (.cells #[.int .u8 Rb.kind, .string (bs Rb.dep.name), .int .u8 Rb.dep.op, .int .i64 Rb.dep.evr.epoch, .string (bs Rb.dep.evr.ver), .string (bs Rb.dep.evr.rel), .slice Rb.addr Rb.args.length Rb.cap] 39) := ⟨_, rfl⟩
 have b1 : Below V0.heap.size V0 V1 := by rw [e1]; exact (Below.refl _ _).alloc (Nat.le_refl _) _
 have s1 : V1.heap.size = w.heap.size + 1 + 1 := by rw [e1, World.size_alloc, s0]
 have x1 : RBx (w.heap.size + 1) Rb V1 := by have q := RBx.new Rb V0; rw [s0] at q; rw [e1]; exact q
 obtain ⟨V2, e2⟩ : ∃ W, W = V1.alloc (.cells #[.int .u8 Rc.kind, .string (bs Rc.dep.name), .int .u8 Rc.dep.op, .int .i64 Rc.dep.evr.epoch, .string (bs Rc.dep.evr.ver), .string (bs Rc.dep.evr.rel), .slice Rc.addr Rc.args.length Rc.cap] 39) := ⟨_, rfl⟩
 have b2 : Below V1.heap.size V1 V2 := by rw [e2]; exact (Below.refl _ _).alloc (Nat.le_refl _) _
 have s2 : V2.heap.size = w.heap.size + 1 + 1 + 1 := by rw [e2, World.size_alloc, s1]
 have x2 : RBx (w.heap.size + 1 + 1) Rc V2 := by have q := RBx.new Rc V1; rw [s1] at q; rw [e2]; exact q
 have bx := b0.trans ((b1.trans (b2.mono b1.size)).mono b0.size)
 have BX := Lib.hid bx
 have XA := Lib.hid ((x0.then b1).then b2)
 have XB := Lib.hid (x1.then b2)
 have XC := Lib.hid x2
 have WA := Lib.hid (fun W (hb : Below w.heap.size w W) => wide14_any RA rc repos IA ic ins SA S.length sc Ra W (hr.calls hb) (hi.calls hb) ((hRa.keeps hb).more hb.size))
 have WN := Lib.hid (fun (R : RV) (hR : RTree w.heap.size w R) W (hb : Below w.heap.size w W) => show Calls Tryz.prog 36 #[.slice none 0 0, .slice none 0 0, .slice none 0 0, R.val] W (Wide14 [] [] 0 R W) from wide14_any none 0 [] none 0 [] none 0 0 R W (rpnilT _ _) (pnilT _ _) ((hR.keeps hb).more hb.size))
 have WB := Lib.hid (fun W (hb : Below w.heap.size w W) => WN.out Rb hRb W hb)
 have WC := Lib.hid (fun W (hb : Below w.heap.size w W) => WN.out Rc hRc W hb)
 have AW := Lib.hid (fun W (hb : Below w.heap.size w W) => tawake_any W (hI.below hb))
 have MD := Lib.hid (fun (k : Int) (hn : Narrow repos ins k) W (hb : Below w.heap.size w W) => made14_any (w0 := w) (hI.1.below hb) (hr.calls hb) (hi.calls hb) hn hrq hiq)
 have TM0 := Lib.hid (fun W (hb : Below w.heap.size w W) => show WhIn W ∧ RTree W.heap.size W Ra ∧ RTree W.heap.size W Rb ∧ RTree W.heap.size W Rc ∧ Rd encI 1 W.heap.size SA sc S W from ⟨hI.below hb, (hRa.keeps hb).more hb.size, (hRb.keeps hb).more hb.size, (hRc.keeps hb).more hb.size, (hS.below hb).more hb.size⟩)
 unfold RV.val at *
 obtain ⟨m, hm⟩ : ∃ m, S.length = m := ⟨_, rfl⟩
 rw [hm] at WA ⊢
 have HM := Lib.hid hm
 have EV := Lib.hid (show V2 = ((w.alloc (.cells #[.int .u8 Ra.kind, .string (bs Ra.dep.name), .int .u8 Ra.dep.op, .int .i64 Ra.dep.evr.epoch, .string (bs Ra.dep.evr.ver), .string (bs Ra.dep.evr.rel), .slice Ra.addr Ra.args.length Ra.cap] 39)).alloc (.cells #[.int .u8 Rb.kind, .string (bs Rb.dep.name), .int .u8 Rb.dep.op, .int .i64 Rb.dep.evr.epoch, .string (bs Rb.dep.evr.ver), .string (bs Rb.dep.evr.rel), .slice Rb.addr Rb.args.length Rb.cap] 39)).alloc (.cells #[.int .u8 Rc.kind, .string (bs Rc.dep.name), .int .u8 Rc.dep.op, .int .i64 Rc.dep.evr.epoch, .string (bs Rc.dep.evr.ver), .string (bs Rc.dep.evr.rel), .slice Rc.addr Rc.args.length Rc.cap] 39) from by rw [e2, e1, e0])
 clear hI hr hrq hi hiq hS hSw hSl hRa hRb hRc hm WN x0 x1 x2 b0 b1 b2 bx s0 s1 s2 e0 e1 e2
 go_enter Tryz.func7, Tryz.ntmps7
 go_wp2_with fail
 rw [← EV.out]
 clear EV V0 V1
 go_at_call 36
 refine (WA.out _ BX.out).mono ?_
 rintro en v0 ⟨r0, rfl, hn, h⟩
 have N0 := Lib.hid hn
 have C0 := Lib.hid (BX.out.trans (h.mono BX.out.size))
 have XA0 := Lib.hid (XA.out.then h)
 have XB0 := Lib.hid (XB.out.then h)
 have XC0 := Lib.hid (XC.out.then h)
 clear h hn XA XB XC BX
 cases r0
 rotate_left
 ·go_wp2_with fail
  go_at_call 37
  refine (AW.out _ C0.out).mono ?_
  rintro en w9 ⟨rfl, h⟩
  have B9 := Lib.hid (C0.out.trans (h.mono C0.out.size))
  clear h
  go_wp2_with fail
  go_ret
  exact ⟨rfl, B9.out⟩
 have NW0 := Lib.hid (N0.out rfl)
 clear N0
 obtain ⟨_, c0, c1, c2, c3, c4, c5, c6⟩ := XB0.out
 go_wp2_with fail
 clear c0 c1 c2 c3 c4 c5 c6
 go_at_call 36
 refine (WB.out _ C0.out).mono ?_
 rintro en v1 ⟨r1, rfl, hn, h⟩
 have N1 := Lib.hid hn
 have C1 := Lib.hid (C0.out.trans (h.mono C0.out.size))
 have XA1 := Lib.hid (XA0.out.then h)
 have XB1 := Lib.hid (XB0.out.then h)
 have XC1 := Lib.hid (XC0.out.then h)
 clear h hn XA0 XB0 XC0 C0
 cases r1
 rotate_left
 ·go_wp2_with fail
  go_at_call 37
  refine (AW.out _ C1.out).mono ?_
  rintro en w9 ⟨rfl, h⟩
  have B9 := Lib.hid (C1.out.trans (h.mono C1.out.size))
  clear h
  go_wp2_with fail
  go_ret
  exact ⟨rfl, B9.out⟩
 have NW1 := Lib.hid (N1.out rfl)
 clear N1
 obtain ⟨_, c0, c1, c2, c3, c4, c5, c6⟩ := XC1.out
 go_wp2_with fail
 clear c0 c1 c2 c3 c4 c5 c6
 go_at_call 36
 refine (WC.out _ C1.out).mono ?_
 rintro en v2 ⟨r2, rfl, hn, h⟩
 have N2 := Lib.hid hn
 have C2 := Lib.hid (C1.out.trans (h.mono C1.out.size))
 have XA2 := Lib.hid (XA1.out.then h)
 have XB2 := Lib.hid (XB1.out.then h)
 have XC2 := Lib.hid (XC1.out.then h)
 clear h hn XA1 XB1 XC1 C1
 cases r2
 rotate_left
 ·go_wp2_with fail
  go_at_call 37
  refine (AW.out _ C2.out).mono ?_
  rintro en w9 ⟨rfl, h⟩
  have B9 := Lib.hid (C2.out.trans (h.mono C2.out.size))
  clear h
  go_wp2_with fail
  go_ret
  exact ⟨rfl, B9.out⟩
 have NW2 := Lib.hid (N2.out rfl)
 clear N2
 go_wp2_with fail
 go_at_call 37
 refine (AW.out _ C2.out).mono ?_
 rintro en w2 ⟨rfl, h⟩
 have B3 := Lib.hid (C2.out.trans (h.mono C2.out.size))
 have XA3 := Lib.hid (XA2.out.then h)
 have XB3 := Lib.hid (XB2.out.then h)
 have XC3 := Lib.hid (XC2.out.then h)
 clear h AW C2 XA2 XB2 XC2
 go_wp2_with fail
 go_at_call 38
 refine (MD.out _ NW0.out.1 w2 B3.out).mono ?_
 rintro en w3 ⟨hcase, h⟩
 have B6 := Lib.hid (B3.out.trans (h.mono B3.out.size))
 have XA6 := Lib.hid (XA3.out.then h)
 have XB6 := Lib.hid (XB3.out.then h)
 have XC6 := Lib.hid (XC3.out.then h)
 clear h MD B3 XA3 XB3 XC3
 rcases hcase with ⟨T, X, P, L, L2, rfl, ht, _, _, hL⟩ | rfl
 rotate_left
 ·go_wp2_with fail
  go_ret
  exact ⟨rfl, B6.out⟩
 have T6 := Lib.hid ht
 have NL := Lib.hid hL
 clear ht hL
 obtain ⟨N, hN⟩ : ∃ N, L.length = N := ⟨_, rfl⟩
 rw [hN] at T6 NL
 clear hN
 go_wp2_with fail
 obtain ⟨x, hx⟩ : ∃ x, x = Tr.satS N (pvL L2) S Ra.tree := ⟨_, rfl⟩
 obtain ⟨y, hy⟩ : ∃ y, y = Tr.satS N (pvL L2) S Rb.tree := ⟨_, rfl⟩
 obtain ⟨z, hz⟩ : ∃ z, z = Tr.satS N (pvL L2) S Rc.tree := ⟨_, rfl⟩
 have SAT := Lib.hid (fun W (hb : Below w3.heap.size w3 W) (R : RV) (hR : RTree W.heap.size W R) (hp : R.tree.parts ≤ 1000000) => show Calls Tryz.prog 40 #[.pointer (some ⟨T, 0, none⟩), .slice SA m sc, R.val] W fun e w' => e = .returned (.bool (Tr.satS N (pvL L2) S R.tree)) ∧ Below W.heap.size W w' from HM.out ▸ tsat_any (T6.out.then hb) (TM0.out W (B6.out.trans (hb.mono B6.out.size))).1 SA sc S (TM0.out W (B6.out.trans (hb.mono B6.out.size))).2.2.2.2 R hR hp)
 have WHO := Lib.hid (fun W (hb : Below w3.heap.size w3 W) (R : RV) (hR : RTree W.heap.size W R) (hp : R.tree.parts ≤ 1000000) => rwholek_any R W hp hR (TM0.out W (B6.out.trans (hb.mono B6.out.size))).1)
 have TR3 := Lib.hid (fun W (hb : Below w3.heap.size w3 W) => show RTree W.heap.size W Ra ∧ RTree W.heap.size W Rb ∧ RTree W.heap.size W Rc from ⟨(TM0.out W (B6.out.trans (hb.mono B6.out.size))).2.1, (TM0.out W (B6.out.trans (hb.mono B6.out.size))).2.2.1, (TM0.out W (B6.out.trans (hb.mono B6.out.size))).2.2.2.1⟩)
 have TRN := Lib.hid (fun (q : RT × Bool) (hq : q ∈ turnedL Ra.tree Rb.tree Rc.tree x y z) => show q.1.parts ≤ 1000000 ∧ (q.1.whole = true → Tr.satS N (pvL L2) S q.1 = q.2) from ⟨turned_parts hq NW0.out.2 NW1.out.2 NW2.out.2, fun h => turned_all (a := Ra.tree) (b := Rb.tree) (c := Rc.tree) (by rw [← hx, ← hy, ← hz]; exact hq) h⟩)
 have TRW := Lib.hid (show Tr.satS N (pvL L2) S (.mk 6 zeroT [Rc.tree, Rb.tree, Ra.tree]) = Tr.satS N (pvL L2) S (.mk 6 zeroT [Ra.tree, Rb.tree, Rc.tree]) from Tr.turn_with)
 have PA3 := Lib.hid (show (RT.mk 6 zeroT [Ra.tree, Rb.tree, Rc.tree]).parts ≤ 1000000 ∧ (RT.mk 6 zeroT [Rc.tree, Rb.tree, Ra.tree]).parts ≤ 1000000 by simp only [RT.parts, partsL]; have := NW0.out.2; have := NW1.out.2; have := NW2.out.2; omega)
 have SA6 := Lib.hid (fun W (hb : Below w3.heap.size w3 W) => hx ▸ SAT.out W hb Ra (TR3.out W hb).1 (by have := NW0.out.2; omega))
 have SB6 := Lib.hid (fun W (hb : Below w3.heap.size w3 W) => hy ▸ SAT.out W hb Rb (TR3.out W hb).2.1 (by have := NW1.out.2; omega))
 have SC6 := Lib.hid (fun W (hb : Below w3.heap.size w3 W) => hz ▸ SAT.out W hb Rc (TR3.out W hb).2.2 (by have := NW2.out.2; omega))
 unfold RV.val at SA6 SB6 SC6
 clear hx hy hz NW0 NW1 NW2
 go_wp2_with fail
 refine wp_region_tail (PP := tu6 T m sc SA Ra Rb Rc x y z) 15 rfl (by kernel_rfl) (by kernel_rfl) (by decide) (by decide) (tu6_mono T m sc SA Ra Rb Rc x y z) (fun _ => undef) (by simp [fillV, put_someT, setIfInBounds_toArray, set_cons_zero, set_cons_succ]) ?_ ?_
 ·intro i o vs W hi ho he hBW K hK
  simp only [take_succ_cons, take_zero, fillV, put_someT, setIfInBounds_toArray, set_cons_zero, set_cons_succ] at hK ⊢
  have BW := Lib.hid hBW
  have XAW := Lib.hid (XA6.out.then hBW)
  have XBW := Lib.hid (XB6.out.then hBW)
  have XCW := Lib.hid (XC6.out.then hBW)
  obtain rfl | rfl | rfl | rfl | rfl | rfl | rfl | rfl | rfl | rfl | rfl | rfl | rfl | rfl | rfl := (show i = 0 ∨ i = 1 ∨ i = 2 ∨ i = 3 ∨ i = 4 ∨ i = 5 ∨ i = 6 ∨ i = 7 ∨ i = 8 ∨ i = 9 ∨ i = 10 ∨ i = 11 ∨ i = 12 ∨ i = 13 ∨ i = 14 by exact (by have : i < 15 := hi; omega))
  ·simp only [getElem?_toArray, getElem?_cons_zero, getElem?_cons_succ, Option.some.injEq] at ho
   subst ho
   rw [if_pos (by rfl)]
   simp only [put_someT, setIfInBounds_toArray, set_cons_zero, set_cons_succ] at hK
   have HK := Lib.hid hK
   clear hK he hi hBW
   go_simp
   exact HK.out _ _ (by first | rfl | simp [tu6]) (Below.refl _ _)
  ·simp only [getElem?_toArray, getElem?_cons_zero, getElem?_cons_succ, Option.some.injEq] at ho
   subst ho
   rw [if_pos (by rfl)]
   simp only [put_someT, setIfInBounds_toArray, set_cons_zero, set_cons_succ] at hK
   have HK := Lib.hid hK
   clear hK he hi hBW
   go_simp
   exact HK.out _ _ (by first | rfl | simp [tu6]) (Below.refl _ _)
  ·simp only [getElem?_toArray, getElem?_cons_zero, getElem?_cons_succ, Option.some.injEq] at ho
   subst ho
   rw [if_pos (by rfl)]
   simp only [put_someT, setIfInBounds_toArray, set_cons_zero, set_cons_succ] at hK
   have HK := Lib.hid hK
   clear hK he hi hBW
   obtain ⟨_, c0, c1, c2, c3, c4, c5, c6⟩ := XAW.out
   go_simp
   exact HK.out _ _ rfl (Below.refl _ _)
  ·simp only [getElem?_toArray, getElem?_cons_zero, getElem?_cons_succ, Option.some.injEq] at ho
   subst ho
   have e0 : vs 0 = _ := he ⟨0, .data⟩ (by simp) rfl
   rw [e0] at hK ⊢
   have e1 : vs 1 = _ := he ⟨1, .data⟩ (by simp) rfl
   rw [e1] at hK ⊢
   have e2 : vs 2 = _ := he ⟨2, .data⟩ (by simp) rfl
   rw [e2] at hK ⊢
   rw [if_pos (by rfl)]
   simp only [put_someT, setIfInBounds_toArray, set_cons_zero, set_cons_succ] at hK
   have HK := Lib.hid hK
   clear hK he hi hBW
   have CW := SA6.out W BW.out
   go_simp
   go_at_call 40
   refine CW.mono ?_
   rintro en w9 ⟨rfl, h⟩
   go_simp
   exact HK.out _ _ rfl h
  ·simp only [getElem?_toArray, getElem?_cons_zero, getElem?_cons_succ, Option.some.injEq] at ho
   subst ho
   rw [if_pos (by rfl)]
   simp only [put_someT, setIfInBounds_toArray, set_cons_zero, set_cons_succ] at hK
   have HK := Lib.hid hK
   clear hK he hi hBW
   go_simp
   exact HK.out _ _ (by first | rfl | simp [tu6]) (Below.refl _ _)
  ·simp only [getElem?_toArray, getElem?_cons_zero, getElem?_cons_succ, Option.some.injEq] at ho
   subst ho
   rw [if_pos (by rfl)]
   simp only [put_someT, setIfInBounds_toArray, set_cons_zero, set_cons_succ] at hK
   have HK := Lib.hid hK
   clear hK he hi hBW
   go_simp
   exact HK.out _ _ (by first | rfl | simp [tu6]) (Below.refl _ _)
  ·simp only [getElem?_toArray, getElem?_cons_zero, getElem?_cons_succ, Option.some.injEq] at ho
   subst ho
   rw [if_pos (by rfl)]
   simp only [put_someT, setIfInBounds_toArray, set_cons_zero, set_cons_succ] at hK
   have HK := Lib.hid hK
   clear hK he hi hBW
   obtain ⟨_, c0, c1, c2, c3, c4, c5, c6⟩ := XBW.out
   go_simp
   exact HK.out _ _ rfl (Below.refl _ _)
  ·simp only [getElem?_toArray, getElem?_cons_zero, getElem?_cons_succ, Option.some.injEq] at ho
   subst ho
   have e4 : vs 4 = _ := he ⟨4, .data⟩ (by simp) rfl
   rw [e4] at hK ⊢
   have e5 : vs 5 = _ := he ⟨5, .data⟩ (by simp) rfl
   rw [e5] at hK ⊢
   have e6 : vs 6 = _ := he ⟨6, .data⟩ (by simp) rfl
   rw [e6] at hK ⊢
   rw [if_pos (by rfl)]
   simp only [put_someT, setIfInBounds_toArray, set_cons_zero, set_cons_succ] at hK
   have HK := Lib.hid hK
   clear hK he hi hBW
   have CW := SB6.out W BW.out
   go_simp
   go_at_call 40
   refine CW.mono ?_
   rintro en w9 ⟨rfl, h⟩
   go_simp
   exact HK.out _ _ rfl h
  ·simp only [getElem?_toArray, getElem?_cons_zero, getElem?_cons_succ, Option.some.injEq] at ho
   subst ho
   rw [if_pos (by rfl)]
   simp only [put_someT, setIfInBounds_toArray, set_cons_zero, set_cons_succ] at hK
   have HK := Lib.hid hK
   clear hK he hi hBW
   go_simp
   exact HK.out _ _ (by first | rfl | simp [tu6]) (Below.refl _ _)
  ·simp only [getElem?_toArray, getElem?_cons_zero, getElem?_cons_succ, Option.some.injEq] at ho
   subst ho
   rw [if_pos (by rfl)]
   simp only [put_someT, setIfInBounds_toArray, set_cons_zero, set_cons_succ] at hK
   have HK := Lib.hid hK
   clear hK he hi hBW
   go_simp
   exact HK.out _ _ (by first | rfl | simp [tu6]) (Below.refl _ _)
  ·simp only [getElem?_toArray, getElem?_cons_zero, getElem?_cons_succ, Option.some.injEq] at ho
   subst ho
   rw [if_pos (by rfl)]
   simp only [put_someT, setIfInBounds_toArray, set_cons_zero, set_cons_succ] at hK
   have HK := Lib.hid hK
   clear hK he hi hBW
   obtain ⟨_, c0, c1, c2, c3, c4, c5, c6⟩ := XCW.out
   go_simp
   exact HK.out _ _ rfl (Below.refl _ _)
  ·simp only [getElem?_toArray, getElem?_cons_zero, getElem?_cons_succ, Option.some.injEq] at ho
   subst ho
   have e8 : vs 8 = _ := he ⟨8, .data⟩ (by simp) rfl
   rw [e8] at hK ⊢
   have e9 : vs 9 = _ := he ⟨9, .data⟩ (by simp) rfl
   rw [e9] at hK ⊢
   have e10 : vs 10 = _ := he ⟨10, .data⟩ (by simp) rfl
   rw [e10] at hK ⊢
   rw [if_pos (by rfl)]
   simp only [put_someT, setIfInBounds_toArray, set_cons_zero, set_cons_succ] at hK
   have HK := Lib.hid hK
   clear hK he hi hBW
   have CW := SC6.out W BW.out
   go_simp
   go_at_call 40
   refine CW.mono ?_
   rintro en w9 ⟨rfl, h⟩
   go_simp
   exact HK.out _ _ rfl h
  ·simp only [getElem?_toArray, getElem?_cons_zero, getElem?_cons_succ, Option.some.injEq] at ho
   subst ho
   have e3 : vs 3 = _ := he ⟨3, .data⟩ (by simp) rfl
   rw [e3] at hK ⊢
   rw [if_pos (by rfl)]
   simp only [put_someT, setIfInBounds_toArray, set_cons_zero, set_cons_succ] at hK
   have HK := Lib.hid hK
   clear hK he hi hBW
   go_simp
   exact HK.out _ _ (by first | rfl | simp [tu6]) (Below.refl _ _)
  ·simp only [getElem?_toArray, getElem?_cons_zero, getElem?_cons_succ, Option.some.injEq] at ho
   subst ho
   have e7 : vs 7 = _ := he ⟨7, .data⟩ (by simp) rfl
   rw [e7] at hK ⊢
   rw [if_pos (by rfl)]
   simp only [put_someT, setIfInBounds_toArray, set_cons_zero, set_cons_succ] at hK
   have HK := Lib.hid hK
   clear hK he hi hBW
   go_simp
   exact HK.out _ _ (by first | rfl | simp [tu6]) (Below.refl _ _)
  ·simp only [getElem?_toArray, getElem?_cons_zero, getElem?_cons_succ, Option.some.injEq] at ho
   subst ho
   have e11 : vs 11 = _ := he ⟨11, .data⟩ (by simp) rfl
   rw [e11] at hK ⊢
   rw [if_pos (by rfl)]
   simp only [put_someT, setIfInBounds_toArray, set_cons_zero, set_cons_succ] at hK
   have HK := Lib.hid hK
   clear hK he hi hBW
   go_simp
   exact HK.out _ _ (by first | rfl | simp [tu6]) (Below.refl _ _)
 ·intro vs W4 hall hBW
  have ex : vs 12 = .bool x := hall 12 (by decide)
  have ey : vs 13 = .bool y := hall 13 (by decide)
  have ez : vs 14 = .bool z := hall 14 (by decide)
  simp only [take_succ_cons, take_zero, List.drop_succ_cons, List.drop_zero, fillV, put_someT, put_noneC, setIfInBounds_toArray, set_cons_zero, set_cons_succ]
  rw [ex, ey, ez]
  generalize vs 0 = a0
  generalize vs 1 = a1
  generalize vs 2 = a2
  generalize vs 3 = a3
  generalize vs 4 = a4
  generalize vs 5 = a5
  generalize vs 6 = a6
  generalize vs 7 = a7
  generalize vs 8 = a8
  generalize vs 9 = a9
  generalize vs 10 = a10
  generalize vs 11 = a11
  have B34 := Lib.hid hBW
  have XA7 := Lib.hid (XA6.out.then hBW)
  have XB7 := Lib.hid (XB6.out.then hBW)
  have XC7 := Lib.hid (XC6.out.then hBW)
  clear hall hBW ex ey ez SA6 SB6 SC6 XA6 XB6 XC6
  go_wp2_with fail
  simp only [List.append_eq, List.cons_append, List.nil_append]
  refine wp_region_tail (PP := tu7 Ra Rb Rc x y z) 95 rfl (by kernel_rfl) (by kernel_rfl) (by decide) (by decide) (tu7_mono Ra Rb Rc x y z) (fun _ => undef) (by simp [fillV, put_someT, setIfInBounds_toArray, set_cons_zero, set_cons_succ]) ?_ ?_
  ·intro i o vs W hi ho he hBW K hK
   simp only [take_succ_cons, take_zero, fillV, put_someT, setIfInBounds_toArray, set_cons_zero, set_cons_succ] at hK ⊢
   have BW := Lib.hid hBW
   have XAW := Lib.hid (XA7.out.then hBW)
   have XBW := Lib.hid (XB7.out.then hBW)
   have XCW := Lib.hid (XC7.out.then hBW)
   obtain hq | hq | hq | hq | hq | hq | hq | hq := (show (0 ≤ i ∧ i < 12) ∨ (12 ≤ i ∧ i < 24) ∨ (24 ≤ i ∧ i < 36) ∨ (36 ≤ i ∧ i < 48) ∨ (48 ≤ i ∧ i < 60) ∨ (60 ≤ i ∧ i < 72) ∨ (72 ≤ i ∧ i < 84) ∨ (84 ≤ i ∧ i < 95) by exact (by have : i < 95 := hi; omega))
   ·obtain rfl | rfl | rfl | rfl | rfl | rfl | rfl | rfl | rfl | rfl | rfl | rfl := (show i = 0 ∨ i = 1 ∨ i = 2 ∨ i = 3 ∨ i = 4 ∨ i = 5 ∨ i = 6 ∨ i = 7 ∨ i = 8 ∨ i = 9 ∨ i = 10 ∨ i = 11 by exact (by omega))
    ·clear hq
     simp only [getElem?_toArray, getElem?_cons_zero, getElem?_cons_succ, Option.some.injEq] at ho
     subst ho
     rw [if_pos (by rfl)]
     simp only [put_someT, setIfInBounds_toArray, set_cons_zero, set_cons_succ] at hK
     have HK := Lib.hid hK
     clear hK he hi hBW
     obtain ⟨_, c0, c1, c2, c3, c4, c5, c6⟩ := XAW.out
     go_simp
     exact HK.out _ _ rfl (Below.refl _ _)
    ·clear hq
     simp only [getElem?_toArray, getElem?_cons_zero, getElem?_cons_succ, Option.some.injEq] at ho
     subst ho
     rw [if_pos (by rfl)]
     simp only [put_someT, setIfInBounds_toArray, set_cons_zero, set_cons_succ] at hK
     have HK := Lib.hid hK
     clear hK he hi hBW
     obtain ⟨_, c0, c1, c2, c3, c4, c5, c6⟩ := XBW.out
     go_simp
     exact HK.out _ _ rfl (Below.refl _ _)
    ·clear hq
     simp only [getElem?_toArray, getElem?_cons_zero, getElem?_cons_succ, Option.some.injEq] at ho
     subst ho
     rw [if_pos (by rfl)]
     simp only [put_someT, setIfInBounds_toArray, set_cons_zero, set_cons_succ] at hK
     have HK := Lib.hid hK
     clear hK he hi hBW
     obtain ⟨_, c0, c1, c2, c3, c4, c5, c6⟩ := XCW.out
     go_simp
     exact HK.out _ _ rfl (Below.refl _ _)
    ·clear hq
     simp only [getElem?_toArray, getElem?_cons_zero, getElem?_cons_succ, Option.some.injEq] at ho
     subst ho
     have e0 : vs 0 = _ := he ⟨0, .data⟩ (by simp) rfl
     have e1 : vs 1 = _ := he ⟨1, .data⟩ (by simp) rfl
     have e2 : vs 2 = _ := he ⟨2, .data⟩ (by simp) rfl
     rw [e0, e1, e2] at hK ⊢
     rw [if_pos (by rfl)]
     simp only [put_someT, setIfInBounds_toArray, set_cons_zero, set_cons_succ] at hK
     have HK := Lib.hid hK
     clear hK he hi hBW
     go_simp
     exact HK.out _ _ (ArgsAt.made (l := [Ra, Rb, Rc]) rfl (by simp) (all3T (TR3.out W (B34.out.trans (BW.out.mono B34.out.size))).1 (TR3.out W (B34.out.trans (BW.out.mono B34.out.size))).2.1 (TR3.out W (B34.out.trans (BW.out.mono B34.out.size))).2.2)) ((Below.refl _ _).alloc (Nat.le_refl _) _)
    ·clear hq
     simp only [getElem?_toArray, getElem?_cons_zero, getElem?_cons_succ, Option.some.injEq] at ho
     subst ho
     obtain ⟨g3, e3, t3⟩ := he ⟨3, .data⟩ (by simp) rfl
     simp only [List.length_cons, List.length_nil, Nat.reduceAdd, Nat.zero_add] at e3
     rw [e3] at hK ⊢
     rw [if_pos (by rfl)]
     simp only [put_someT, setIfInBounds_toArray, set_cons_zero, set_cons_succ] at hK
     have HK := Lib.hid hK
     clear hK he hi hBW
     go_simp
     go_at_call 44
     refine (of14_any _ _ _ _ _).mono ?_
     rintro en w9 ⟨rfl, h⟩
     go_simp
     exact HK.out _ _ ⟨g3, rfl, ((t3 _).keeps h).more h.size⟩ h
    ·clear hq
     simp only [getElem?_toArray, getElem?_cons_zero, getElem?_cons_succ, Option.some.injEq] at ho
     subst ho
     rw [if_pos (by rfl)]
     simp only [put_someT, setIfInBounds_toArray, set_cons_zero, set_cons_succ] at hK
     have HK := Lib.hid hK
     clear hK he hi hBW
     go_simp
     exact HK.out _ _ rfl (Below.refl _ _)
    ·clear hq
     simp only [getElem?_toArray, getElem?_cons_zero, getElem?_cons_succ, Option.some.injEq] at ho
     subst ho
     have e5 : vs 5 = _ := he ⟨5, .data⟩ (by simp) rfl
     rw [e5] at hK ⊢
     rw [if_pos (by rfl)]
     simp only [put_someT, setIfInBounds_toArray, set_cons_zero, set_cons_succ] at hK
     have HK := Lib.hid hK
     clear hK he hi hBW
     go_simp
     exact HK.out _ _ rfl (Below.refl _ _)
    ·clear hq
     simp only [getElem?_toArray, getElem?_cons_zero, getElem?_cons_succ, Option.some.injEq] at ho
     subst ho
     have e6 : vs 6 = _ := he ⟨6, .guard⟩ (by simp) rfl
     clear he hi SAT WHO TRN TRW PA3 TR3
     cases x <;> cases y
     all_goals
      try simp only [cond_true, cond_false, Bool.true_and, Bool.false_and, Bool.and_true, Bool.and_false, Bool.not_true, Bool.not_false, Bool.true_or, Bool.false_or, Bool.or_true, Bool.or_false] at e6
      rw [e6] at hK ⊢
      first
       | (refine wifT_yes rfl ?_; simp only [put_someT, setIfInBounds_toArray, set_cons_zero, set_cons_succ] at hK; have HK := Lib.hid hK; clear hK; go_simp; exact HK.out _ _ rfl (Below.refl _ _))
       | (refine wifT_no Bool.false_ne_true ?_; exact hK _ _ rfl (Below.refl _ _))
    ·clear hq
     simp only [getElem?_toArray, getElem?_cons_zero, getElem?_cons_succ, Option.some.injEq] at ho
     subst ho
     have e6 : vs 6 = _ := he ⟨6, .data⟩ (by simp) rfl
     have e7 : vs 7 = _ := he ⟨7, .data⟩ (by simp) rfl
     clear he hi SAT WHO TRN TRW PA3 TR3
     cases x <;> cases y
     all_goals
      try simp only [cond_true, cond_false, Bool.true_and, Bool.false_and, Bool.and_true, Bool.and_false, Bool.not_true, Bool.not_false, Bool.true_or, Bool.false_or, Bool.or_true, Bool.or_false] at e6
      try simp only [cond_true, cond_false, Bool.true_and, Bool.false_and, Bool.and_true, Bool.and_false, Bool.not_true, Bool.not_false, Bool.true_or, Bool.false_or, Bool.or_true, Bool.or_false] at e7
      rw [e6, e7] at hK ⊢
      first
       | (refine wifT_yes rfl ?_; simp only [put_someT, setIfInBounds_toArray, set_cons_zero, set_cons_succ] at hK; have HK := Lib.hid hK; clear hK; go_simp; exact HK.out _ _ rfl (Below.refl _ _))
       | (refine wifT_no Bool.false_ne_true ?_; exact hK _ _ rfl (Below.refl _ _))
    ·clear hq
     simp only [getElem?_toArray, getElem?_cons_zero, getElem?_cons_succ, Option.some.injEq] at ho
     subst ho
     have e8 : vs 8 = _ := he ⟨8, .data⟩ (by simp) rfl
     rw [e8] at hK ⊢
     rw [if_pos (by rfl)]
     simp only [put_someT, setIfInBounds_toArray, set_cons_zero, set_cons_succ] at hK
     have HK := Lib.hid hK
     clear hK he hi hBW
     go_simp
     exact HK.out _ _ rfl (Below.refl _ _)
    ·clear hq
     simp only [getElem?_toArray, getElem?_cons_zero, getElem?_cons_succ, Option.some.injEq] at ho
     subst ho
     have e9 : vs 9 = _ := he ⟨9, .guard⟩ (by simp) rfl
     clear he hi SAT WHO TRN TRW PA3 TR3
     cases x <;> cases y
     all_goals
      try simp only [cond_true, cond_false, Bool.true_and, Bool.false_and, Bool.and_true, Bool.and_false, Bool.not_true, Bool.not_false, Bool.true_or, Bool.false_or, Bool.or_true, Bool.or_false] at e9
      rw [e9] at hK ⊢
      first
       | (refine wifT_yes rfl ?_; simp only [put_someT, setIfInBounds_toArray, set_cons_zero, set_cons_succ] at hK; have HK := Lib.hid hK; clear hK; go_simp; exact HK.out _ _ rfl (Below.refl _ _))
       | (refine wifT_no Bool.false_ne_true ?_; exact hK _ _ rfl (Below.refl _ _))
    ·clear hq
     simp only [getElem?_toArray, getElem?_cons_zero, getElem?_cons_succ, Option.some.injEq] at ho
     subst ho
     have e9 : vs 9 = _ := he ⟨9, .data⟩ (by simp) rfl
     have e10 : vs 10 = _ := he ⟨10, .data⟩ (by simp) rfl
     clear he hi SAT WHO TRN TRW PA3 TR3
     cases x <;> cases y
     all_goals
      try simp only [cond_true, cond_false, Bool.true_and, Bool.false_and, Bool.and_true, Bool.and_false, Bool.not_true, Bool.not_false, Bool.true_or, Bool.false_or, Bool.or_true, Bool.or_false] at e9
      try simp only [cond_true, cond_false, Bool.true_and, Bool.false_and, Bool.and_true, Bool.and_false, Bool.not_true, Bool.not_false, Bool.true_or, Bool.false_or, Bool.or_true, Bool.or_false] at e10
      rw [e9, e10] at hK ⊢
      first
       | (refine wifT_yes rfl ?_; simp only [put_someT, setIfInBounds_toArray, set_cons_zero, set_cons_succ] at hK; have HK := Lib.hid hK; clear hK; go_simp; exact HK.out _ _ rfl (Below.refl _ _))
       | (refine wifT_no Bool.false_ne_true ?_; exact hK _ _ rfl (Below.refl _ _))
   ·obtain rfl | rfl | rfl | rfl | rfl | rfl | rfl | rfl | rfl | rfl | rfl | rfl := (show i = 12 ∨ i = 13 ∨ i = 14 ∨ i = 15 ∨ i = 16 ∨ i = 17 ∨ i = 18 ∨ i = 19 ∨ i = 20 ∨ i = 21 ∨ i = 22 ∨ i = 23 by exact (by omega))
    ·clear hq
     simp only [getElem?_toArray, getElem?_cons_zero, getElem?_cons_succ, Option.some.injEq] at ho
     subst ho
     obtain ⟨g4, e4, t4⟩ := he ⟨4, .data⟩ (by simp) rfl
     simp only [List.length_cons, List.length_nil, Nat.reduceAdd, Nat.zero_add] at e4
     have e11 : vs 11 = _ := he ⟨11, .data⟩ (by simp) rfl
     rw [e4, e11] at hK ⊢
     rw [if_pos (by rfl)]
     simp only [put_someT, setIfInBounds_toArray, set_cons_zero, set_cons_succ] at hK
     have HK := Lib.hid hK
     clear hK he hi hBW
     go_simp
     exact HK.out _ _ ⟨g4, rfl, t4⟩ (Below.refl _ _)
    ·clear hq
     simp only [getElem?_toArray, getElem?_cons_zero, getElem?_cons_succ, Option.some.injEq] at ho
     subst ho
     rw [if_pos (by rfl)]
     simp only [put_someT, setIfInBounds_toArray, set_cons_zero, set_cons_succ] at hK
     have HK := Lib.hid hK
     clear hK he hi hBW
     obtain ⟨_, c0, c1, c2, c3, c4, c5, c6⟩ := XCW.out
     go_simp
     exact HK.out _ _ rfl (Below.refl _ _)
    ·clear hq
     simp only [getElem?_toArray, getElem?_cons_zero, getElem?_cons_succ, Option.some.injEq] at ho
     subst ho
     rw [if_pos (by rfl)]
     simp only [put_someT, setIfInBounds_toArray, set_cons_zero, set_cons_succ] at hK
     have HK := Lib.hid hK
     clear hK he hi hBW
     obtain ⟨_, c0, c1, c2, c3, c4, c5, c6⟩ := XAW.out
     go_simp
     exact HK.out _ _ rfl (Below.refl _ _)
    ·clear hq
     simp only [getElem?_toArray, getElem?_cons_zero, getElem?_cons_succ, Option.some.injEq] at ho
     subst ho
     rw [if_pos (by rfl)]
     simp only [put_someT, setIfInBounds_toArray, set_cons_zero, set_cons_succ] at hK
     have HK := Lib.hid hK
     clear hK he hi hBW
     obtain ⟨_, c0, c1, c2, c3, c4, c5, c6⟩ := XBW.out
     go_simp
     exact HK.out _ _ rfl (Below.refl _ _)
    ·clear hq
     simp only [getElem?_toArray, getElem?_cons_zero, getElem?_cons_succ, Option.some.injEq] at ho
     subst ho
     have e13 : vs 13 = _ := he ⟨13, .data⟩ (by simp) rfl
     have e14 : vs 14 = _ := he ⟨14, .data⟩ (by simp) rfl
     have e15 : vs 15 = _ := he ⟨15, .data⟩ (by simp) rfl
     rw [e13, e14, e15] at hK ⊢
     rw [if_pos (by rfl)]
     simp only [put_someT, setIfInBounds_toArray, set_cons_zero, set_cons_succ] at hK
     have HK := Lib.hid hK
     clear hK he hi hBW
     go_simp
     exact HK.out _ _ (ArgsAt.made (l := [Rc, Ra, Rb]) rfl (by simp) (all3T (TR3.out W (B34.out.trans (BW.out.mono B34.out.size))).2.2 (TR3.out W (B34.out.trans (BW.out.mono B34.out.size))).1 (TR3.out W (B34.out.trans (BW.out.mono B34.out.size))).2.1)) ((Below.refl _ _).alloc (Nat.le_refl _) _)
    ·clear hq
     simp only [getElem?_toArray, getElem?_cons_zero, getElem?_cons_succ, Option.some.injEq] at ho
     subst ho
     obtain ⟨g16, e16, t16⟩ := he ⟨16, .data⟩ (by simp) rfl
     simp only [List.length_cons, List.length_nil, Nat.reduceAdd, Nat.zero_add] at e16
     rw [e16] at hK ⊢
     rw [if_pos (by rfl)]
     simp only [put_someT, setIfInBounds_toArray, set_cons_zero, set_cons_succ] at hK
     have HK := Lib.hid hK
     clear hK he hi hBW
     go_simp
     go_at_call 44
     refine (of14_any _ _ _ _ _).mono ?_
     rintro en w9 ⟨rfl, h⟩
     go_simp
     exact HK.out _ _ ⟨g16, rfl, ((t16 _).keeps h).more h.size⟩ h
    ·clear hq
     simp only [getElem?_toArray, getElem?_cons_zero, getElem?_cons_succ, Option.some.injEq] at ho
     subst ho
     rw [if_pos (by rfl)]
     simp only [put_someT, setIfInBounds_toArray, set_cons_zero, set_cons_succ] at hK
     have HK := Lib.hid hK
     clear hK he hi hBW
     go_simp
     exact HK.out _ _ rfl (Below.refl _ _)
    ·clear hq
     simp only [getElem?_toArray, getElem?_cons_zero, getElem?_cons_succ, Option.some.injEq] at ho
     subst ho
     have e18 : vs 18 = _ := he ⟨18, .data⟩ (by simp) rfl
     rw [e18] at hK ⊢
     rw [if_pos (by rfl)]
     simp only [put_someT, setIfInBounds_toArray, set_cons_zero, set_cons_succ] at hK
     have HK := Lib.hid hK
     clear hK he hi hBW
     go_simp
     exact HK.out _ _ rfl (Below.refl _ _)
    ·clear hq
     simp only [getElem?_toArray, getElem?_cons_zero, getElem?_cons_succ, Option.some.injEq] at ho
     subst ho
     have e19 : vs 19 = _ := he ⟨19, .guard⟩ (by simp) rfl
     clear he hi SAT WHO TRN TRW PA3 TR3
     cases x <;> cases y
     all_goals
      try simp only [cond_true, cond_false, Bool.true_and, Bool.false_and, Bool.and_true, Bool.and_false, Bool.not_true, Bool.not_false, Bool.true_or, Bool.false_or, Bool.or_true, Bool.or_false] at e19
      rw [e19] at hK ⊢
      first
       | (refine wifT_yes rfl ?_; simp only [put_someT, setIfInBounds_toArray, set_cons_zero, set_cons_succ] at hK; have HK := Lib.hid hK; clear hK; go_simp; exact HK.out _ _ rfl (Below.refl _ _))
       | (refine wifT_no Bool.false_ne_true ?_; exact hK _ _ rfl (Below.refl _ _))
    ·clear hq
     simp only [getElem?_toArray, getElem?_cons_zero, getElem?_cons_succ, Option.some.injEq] at ho
     subst ho
     have e19 : vs 19 = _ := he ⟨19, .data⟩ (by simp) rfl
     have e20 : vs 20 = _ := he ⟨20, .data⟩ (by simp) rfl
     clear he hi SAT WHO TRN TRW PA3 TR3
     cases x <;> cases y
     all_goals
      try simp only [cond_true, cond_false, Bool.true_and, Bool.false_and, Bool.and_true, Bool.and_false, Bool.not_true, Bool.not_false, Bool.true_or, Bool.false_or, Bool.or_true, Bool.or_false] at e19
      try simp only [cond_true, cond_false, Bool.true_and, Bool.false_and, Bool.and_true, Bool.and_false, Bool.not_true, Bool.not_false, Bool.true_or, Bool.false_or, Bool.or_true, Bool.or_false] at e20
      rw [e19, e20] at hK ⊢
      first
       | (refine wifT_yes rfl ?_; simp only [put_someT, setIfInBounds_toArray, set_cons_zero, set_cons_succ] at hK; have HK := Lib.hid hK; clear hK; go_simp; exact HK.out _ _ rfl (Below.refl _ _))
       | (refine wifT_no Bool.false_ne_true ?_; exact hK _ _ rfl (Below.refl _ _))
    ·clear hq
     simp only [getElem?_toArray, getElem?_cons_zero, getElem?_cons_succ, Option.some.injEq] at ho
     subst ho
     have e21 : vs 21 = _ := he ⟨21, .data⟩ (by simp) rfl
     rw [e21] at hK ⊢
     rw [if_pos (by rfl)]
     simp only [put_someT, setIfInBounds_toArray, set_cons_zero, set_cons_succ] at hK
     have HK := Lib.hid hK
     clear hK he hi hBW
     go_simp
     exact HK.out _ _ rfl (Below.refl _ _)
    ·clear hq
     simp only [getElem?_toArray, getElem?_cons_zero, getElem?_cons_succ, Option.some.injEq] at ho
     subst ho
     have e22 : vs 22 = _ := he ⟨22, .guard⟩ (by simp) rfl
     clear he hi SAT WHO TRN TRW PA3 TR3
     cases x <;> cases y
     all_goals
      try simp only [cond_true, cond_false, Bool.true_and, Bool.false_and, Bool.and_true, Bool.and_false, Bool.not_true, Bool.not_false, Bool.true_or, Bool.false_or, Bool.or_true, Bool.or_false] at e22
      rw [e22] at hK ⊢
      first
       | (refine wifT_yes rfl ?_; simp only [put_someT, setIfInBounds_toArray, set_cons_zero, set_cons_succ] at hK; have HK := Lib.hid hK; clear hK; go_simp; exact HK.out _ _ rfl (Below.refl _ _))
       | (refine wifT_no Bool.false_ne_true ?_; exact hK _ _ rfl (Below.refl _ _))
   ·obtain rfl | rfl | rfl | rfl | rfl | rfl | rfl | rfl | rfl | rfl | rfl | rfl := (show i = 24 ∨ i = 25 ∨ i = 26 ∨ i = 27 ∨ i = 28 ∨ i = 29 ∨ i = 30 ∨ i = 31 ∨ i = 32 ∨ i = 33 ∨ i = 34 ∨ i = 35 by exact (by omega))
    ·clear hq
     simp only [getElem?_toArray, getElem?_cons_zero, getElem?_cons_succ, Option.some.injEq] at ho
     subst ho
     have e22 : vs 22 = _ := he ⟨22, .data⟩ (by simp) rfl
     have e23 : vs 23 = _ := he ⟨23, .data⟩ (by simp) rfl
     clear he hi SAT WHO TRN TRW PA3 TR3
     cases x <;> cases y
     all_goals
      try simp only [cond_true, cond_false, Bool.true_and, Bool.false_and, Bool.and_true, Bool.and_false, Bool.not_true, Bool.not_false, Bool.true_or, Bool.false_or, Bool.or_true, Bool.or_false] at e22
      try simp only [cond_true, cond_false, Bool.true_and, Bool.false_and, Bool.and_true, Bool.and_false, Bool.not_true, Bool.not_false, Bool.true_or, Bool.false_or, Bool.or_true, Bool.or_false] at e23
      rw [e22, e23] at hK ⊢
      first
       | (refine wifT_yes rfl ?_; simp only [put_someT, setIfInBounds_toArray, set_cons_zero, set_cons_succ] at hK; have HK := Lib.hid hK; clear hK; go_simp; exact HK.out _ _ rfl (Below.refl _ _))
       | (refine wifT_no Bool.false_ne_true ?_; exact hK _ _ rfl (Below.refl _ _))
    ·clear hq
     simp only [getElem?_toArray, getElem?_cons_zero, getElem?_cons_succ, Option.some.injEq] at ho
     subst ho
     obtain ⟨g17, e17, t17⟩ := he ⟨17, .data⟩ (by simp) rfl
     simp only [List.length_cons, List.length_nil, Nat.reduceAdd, Nat.zero_add] at e17
     have e24 : vs 24 = _ := he ⟨24, .data⟩ (by simp) rfl
     rw [e17, e24] at hK ⊢
     rw [if_pos (by rfl)]
     simp only [put_someT, setIfInBounds_toArray, set_cons_zero, set_cons_succ] at hK
     have HK := Lib.hid hK
     clear hK he hi hBW
     go_simp
     exact HK.out _ _ ⟨g17, rfl, t17⟩ (Below.refl _ _)
    ·clear hq
     simp only [getElem?_toArray, getElem?_cons_zero, getElem?_cons_succ, Option.some.injEq] at ho
     subst ho
     rw [if_pos (by rfl)]
     simp only [put_someT, setIfInBounds_toArray, set_cons_zero, set_cons_succ] at hK
     have HK := Lib.hid hK
     clear hK he hi hBW
     obtain ⟨_, c0, c1, c2, c3, c4, c5, c6⟩ := XBW.out
     go_simp
     exact HK.out _ _ rfl (Below.refl _ _)
    ·clear hq
     simp only [getElem?_toArray, getElem?_cons_zero, getElem?_cons_succ, Option.some.injEq] at ho
     subst ho
     rw [if_pos (by rfl)]
     simp only [put_someT, setIfInBounds_toArray, set_cons_zero, set_cons_succ] at hK
     have HK := Lib.hid hK
     clear hK he hi hBW
     obtain ⟨_, c0, c1, c2, c3, c4, c5, c6⟩ := XCW.out
     go_simp
     exact HK.out _ _ rfl (Below.refl _ _)
    ·clear hq
     simp only [getElem?_toArray, getElem?_cons_zero, getElem?_cons_succ, Option.some.injEq] at ho
     subst ho
     rw [if_pos (by rfl)]
     simp only [put_someT, setIfInBounds_toArray, set_cons_zero, set_cons_succ] at hK
     have HK := Lib.hid hK
     clear hK he hi hBW
     obtain ⟨_, c0, c1, c2, c3, c4, c5, c6⟩ := XAW.out
     go_simp
     exact HK.out _ _ rfl (Below.refl _ _)
    ·clear hq
     simp only [getElem?_toArray, getElem?_cons_zero, getElem?_cons_succ, Option.some.injEq] at ho
     subst ho
     have e26 : vs 26 = _ := he ⟨26, .data⟩ (by simp) rfl
     have e27 : vs 27 = _ := he ⟨27, .data⟩ (by simp) rfl
     have e28 : vs 28 = _ := he ⟨28, .data⟩ (by simp) rfl
     rw [e26, e27, e28] at hK ⊢
     rw [if_pos (by rfl)]
     simp only [put_someT, setIfInBounds_toArray, set_cons_zero, set_cons_succ] at hK
     have HK := Lib.hid hK
     clear hK he hi hBW
     go_simp
     exact HK.out _ _ (ArgsAt.made (l := [Rb, Rc, Ra]) rfl (by simp) (all3T (TR3.out W (B34.out.trans (BW.out.mono B34.out.size))).2.1 (TR3.out W (B34.out.trans (BW.out.mono B34.out.size))).2.2 (TR3.out W (B34.out.trans (BW.out.mono B34.out.size))).1)) ((Below.refl _ _).alloc (Nat.le_refl _) _)
    ·clear hq
     simp only [getElem?_toArray, getElem?_cons_zero, getElem?_cons_succ, Option.some.injEq] at ho
     subst ho
     obtain ⟨g29, e29, t29⟩ := he ⟨29, .data⟩ (by simp) rfl
     simp only [List.length_cons, List.length_nil, Nat.reduceAdd, Nat.zero_add] at e29
     rw [e29] at hK ⊢
     rw [if_pos (by rfl)]
     simp only [put_someT, setIfInBounds_toArray, set_cons_zero, set_cons_succ] at hK
     have HK := Lib.hid hK
     clear hK he hi hBW
     go_simp
     go_at_call 44
     refine (of14_any _ _ _ _ _).mono ?_
     rintro en w9 ⟨rfl, h⟩
     go_simp
     exact HK.out _ _ ⟨g29, rfl, ((t29 _).keeps h).more h.size⟩ h
    ·clear hq
     simp only [getElem?_toArray, getElem?_cons_zero, getElem?_cons_succ, Option.some.injEq] at ho
     subst ho
     rw [if_pos (by rfl)]
     simp only [put_someT, setIfInBounds_toArray, set_cons_zero, set_cons_succ] at hK
     have HK := Lib.hid hK
     clear hK he hi hBW
     go_simp
     exact HK.out _ _ rfl (Below.refl _ _)
    ·clear hq
     simp only [getElem?_toArray, getElem?_cons_zero, getElem?_cons_succ, Option.some.injEq] at ho
     subst ho
     have e31 : vs 31 = _ := he ⟨31, .data⟩ (by simp) rfl
     rw [e31] at hK ⊢
     rw [if_pos (by rfl)]
     simp only [put_someT, setIfInBounds_toArray, set_cons_zero, set_cons_succ] at hK
     have HK := Lib.hid hK
     clear hK he hi hBW
     go_simp
     exact HK.out _ _ rfl (Below.refl _ _)
    ·clear hq
     simp only [getElem?_toArray, getElem?_cons_zero, getElem?_cons_succ, Option.some.injEq] at ho
     subst ho
     have e32 : vs 32 = _ := he ⟨32, .guard⟩ (by simp) rfl
     clear he hi SAT WHO TRN TRW PA3 TR3
     cases x <;> cases y
     all_goals
      try simp only [cond_true, cond_false, Bool.true_and, Bool.false_and, Bool.and_true, Bool.and_false, Bool.not_true, Bool.not_false, Bool.true_or, Bool.false_or, Bool.or_true, Bool.or_false] at e32
      rw [e32] at hK ⊢
      first
       | (refine wifT_yes rfl ?_; simp only [put_someT, setIfInBounds_toArray, set_cons_zero, set_cons_succ] at hK; have HK := Lib.hid hK; clear hK; go_simp; exact HK.out _ _ rfl (Below.refl _ _))
       | (refine wifT_no Bool.false_ne_true ?_; exact hK _ _ rfl (Below.refl _ _))
    ·clear hq
     simp only [getElem?_toArray, getElem?_cons_zero, getElem?_cons_succ, Option.some.injEq] at ho
     subst ho
     have e32 : vs 32 = _ := he ⟨32, .data⟩ (by simp) rfl
     have e33 : vs 33 = _ := he ⟨33, .data⟩ (by simp) rfl
     clear he hi SAT WHO TRN TRW PA3 TR3
     cases x <;> cases y
     all_goals
      try simp only [cond_true, cond_false, Bool.true_and, Bool.false_and, Bool.and_true, Bool.and_false, Bool.not_true, Bool.not_false, Bool.true_or, Bool.false_or, Bool.or_true, Bool.or_false] at e32
      try simp only [cond_true, cond_false, Bool.true_and, Bool.false_and, Bool.and_true, Bool.and_false, Bool.not_true, Bool.not_false, Bool.true_or, Bool.false_or, Bool.or_true, Bool.or_false] at e33
      rw [e32, e33] at hK ⊢
      first
       | (refine wifT_yes rfl ?_; simp only [put_someT, setIfInBounds_toArray, set_cons_zero, set_cons_succ] at hK; have HK := Lib.hid hK; clear hK; go_simp; exact HK.out _ _ rfl (Below.refl _ _))
       | (refine wifT_no Bool.false_ne_true ?_; exact hK _ _ rfl (Below.refl _ _))
    ·clear hq
     simp only [getElem?_toArray, getElem?_cons_zero, getElem?_cons_succ, Option.some.injEq] at ho
     subst ho
     have e34 : vs 34 = _ := he ⟨34, .data⟩ (by simp) rfl
     rw [e34] at hK ⊢
     rw [if_pos (by rfl)]
     simp only [put_someT, setIfInBounds_toArray, set_cons_zero, set_cons_succ] at hK
     have HK := Lib.hid hK
     clear hK he hi hBW
     go_simp
     exact HK.out _ _ rfl (Below.refl _ _)
   ·obtain rfl | rfl | rfl | rfl | rfl | rfl | rfl | rfl | rfl | rfl | rfl | rfl := (show i = 36 ∨ i = 37 ∨ i = 38 ∨ i = 39 ∨ i = 40 ∨ i = 41 ∨ i = 42 ∨ i = 43 ∨ i = 44 ∨ i = 45 ∨ i = 46 ∨ i = 47 by exact (by omega))
    ·clear hq
     simp only [getElem?_toArray, getElem?_cons_zero, getElem?_cons_succ, Option.some.injEq] at ho
     subst ho
     have e35 : vs 35 = _ := he ⟨35, .guard⟩ (by simp) rfl
     clear he hi SAT WHO TRN TRW PA3 TR3
     cases x <;> cases y
     all_goals
      try simp only [cond_true, cond_false, Bool.true_and, Bool.false_and, Bool.and_true, Bool.and_false, Bool.not_true, Bool.not_false, Bool.true_or, Bool.false_or, Bool.or_true, Bool.or_false] at e35
      rw [e35] at hK ⊢
      first
       | (refine wifT_yes rfl ?_; simp only [put_someT, setIfInBounds_toArray, set_cons_zero, set_cons_succ] at hK; have HK := Lib.hid hK; clear hK; go_simp; exact HK.out _ _ rfl (Below.refl _ _))
       | (refine wifT_no Bool.false_ne_true ?_; exact hK _ _ rfl (Below.refl _ _))
    ·clear hq
     simp only [getElem?_toArray, getElem?_cons_zero, getElem?_cons_succ, Option.some.injEq] at ho
     subst ho
     have e35 : vs 35 = _ := he ⟨35, .data⟩ (by simp) rfl
     have e36 : vs 36 = _ := he ⟨36, .data⟩ (by simp) rfl
     clear he hi SAT WHO TRN TRW PA3 TR3
     cases x <;> cases y
     all_goals
      try simp only [cond_true, cond_false, Bool.true_and, Bool.false_and, Bool.and_true, Bool.and_false, Bool.not_true, Bool.not_false, Bool.true_or, Bool.false_or, Bool.or_true, Bool.or_false] at e35
      try simp only [cond_true, cond_false, Bool.true_and, Bool.false_and, Bool.and_true, Bool.and_false, Bool.not_true, Bool.not_false, Bool.true_or, Bool.false_or, Bool.or_true, Bool.or_false] at e36
      rw [e35, e36] at hK ⊢
      first
       | (refine wifT_yes rfl ?_; simp only [put_someT, setIfInBounds_toArray, set_cons_zero, set_cons_succ] at hK; have HK := Lib.hid hK; clear hK; go_simp; exact HK.out _ _ rfl (Below.refl _ _))
       | (refine wifT_no Bool.false_ne_true ?_; exact hK _ _ rfl (Below.refl _ _))
    ·clear hq
     simp only [getElem?_toArray, getElem?_cons_zero, getElem?_cons_succ, Option.some.injEq] at ho
     subst ho
     obtain ⟨g30, e30, t30⟩ := he ⟨30, .data⟩ (by simp) rfl
     simp only [List.length_cons, List.length_nil, Nat.reduceAdd, Nat.zero_add] at e30
     have e37 : vs 37 = _ := he ⟨37, .data⟩ (by simp) rfl
     rw [e30, e37] at hK ⊢
     rw [if_pos (by rfl)]
     simp only [put_someT, setIfInBounds_toArray, set_cons_zero, set_cons_succ] at hK
     have HK := Lib.hid hK
     clear hK he hi hBW
     go_simp
     exact HK.out _ _ ⟨g30, rfl, t30⟩ (Below.refl _ _)
    ·clear hq
     simp only [getElem?_toArray, getElem?_cons_zero, getElem?_cons_succ, Option.some.injEq] at ho
     subst ho
     rw [if_pos (by rfl)]
     simp only [put_someT, setIfInBounds_toArray, set_cons_zero, set_cons_succ] at hK
     have HK := Lib.hid hK
     clear hK he hi hBW
     obtain ⟨_, c0, c1, c2, c3, c4, c5, c6⟩ := XAW.out
     go_simp
     exact HK.out _ _ rfl (Below.refl _ _)
    ·clear hq
     simp only [getElem?_toArray, getElem?_cons_zero, getElem?_cons_succ, Option.some.injEq] at ho
     subst ho
     rw [if_pos (by rfl)]
     simp only [put_someT, setIfInBounds_toArray, set_cons_zero, set_cons_succ] at hK
     have HK := Lib.hid hK
     clear hK he hi hBW
     obtain ⟨_, c0, c1, c2, c3, c4, c5, c6⟩ := XBW.out
     go_simp
     exact HK.out _ _ rfl (Below.refl _ _)
    ·clear hq
     simp only [getElem?_toArray, getElem?_cons_zero, getElem?_cons_succ, Option.some.injEq] at ho
     subst ho
     have e39 : vs 39 = _ := he ⟨39, .data⟩ (by simp) rfl
     have e40 : vs 40 = _ := he ⟨40, .data⟩ (by simp) rfl
     rw [e39, e40] at hK ⊢
     rw [if_pos (by rfl)]
     simp only [put_someT, setIfInBounds_toArray, set_cons_zero, set_cons_succ] at hK
     have HK := Lib.hid hK
     clear hK he hi hBW
     go_simp
     exact HK.out _ _ (ArgsAt.made (l := [Ra, Rb]) rfl (by simp) (all2T (TR3.out W (B34.out.trans (BW.out.mono B34.out.size))).1 (TR3.out W (B34.out.trans (BW.out.mono B34.out.size))).2.1)) ((Below.refl _ _).alloc (Nat.le_refl _) _)
    ·clear hq
     simp only [getElem?_toArray, getElem?_cons_zero, getElem?_cons_succ, Option.some.injEq] at ho
     subst ho
     obtain ⟨g41, e41, t41⟩ := he ⟨41, .data⟩ (by simp) rfl
     simp only [List.length_cons, List.length_nil, Nat.reduceAdd, Nat.zero_add] at e41
     rw [e41] at hK ⊢
     rw [if_pos (by rfl)]
     simp only [put_someT, setIfInBounds_toArray, set_cons_zero, set_cons_succ] at hK
     have HK := Lib.hid hK
     clear hK he hi hBW
     go_simp
     go_at_call 44
     refine (of14_any _ _ _ _ _).mono ?_
     rintro en w9 ⟨rfl, h⟩
     go_simp
     exact HK.out _ _ ⟨g41, rfl, ((t41 _).keeps h).more h.size⟩ h
    ·clear hq
     simp only [getElem?_toArray, getElem?_cons_zero, getElem?_cons_succ, Option.some.injEq] at ho
     subst ho
     rw [if_pos (by rfl)]
     simp only [put_someT, setIfInBounds_toArray, set_cons_zero, set_cons_succ] at hK
     have HK := Lib.hid hK
     clear hK he hi hBW
     go_simp
     exact HK.out _ _ rfl (Below.refl _ _)
    ·clear hq
     simp only [getElem?_toArray, getElem?_cons_zero, getElem?_cons_succ, Option.some.injEq] at ho
     subst ho
     have e43 : vs 43 = _ := he ⟨43, .data⟩ (by simp) rfl
     rw [e43] at hK ⊢
     rw [if_pos (by rfl)]
     simp only [put_someT, setIfInBounds_toArray, set_cons_zero, set_cons_succ] at hK
     have HK := Lib.hid hK
     clear hK he hi hBW
     go_simp
     exact HK.out _ _ rfl (Below.refl _ _)
    ·clear hq
     simp only [getElem?_toArray, getElem?_cons_zero, getElem?_cons_succ, Option.some.injEq] at ho
     subst ho
     have e44 : vs 44 = _ := he ⟨44, .guard⟩ (by simp) rfl
     clear he hi SAT WHO TRN TRW PA3 TR3
     cases x <;> cases y
     all_goals
      try simp only [cond_true, cond_false, Bool.true_and, Bool.false_and, Bool.and_true, Bool.and_false, Bool.not_true, Bool.not_false, Bool.true_or, Bool.false_or, Bool.or_true, Bool.or_false] at e44
      rw [e44] at hK ⊢
      first
       | (refine wifT_yes rfl ?_; simp only [put_someT, setIfInBounds_toArray, set_cons_zero, set_cons_succ] at hK; have HK := Lib.hid hK; clear hK; go_simp; exact HK.out _ _ rfl (Below.refl _ _))
       | (refine wifT_no Bool.false_ne_true ?_; exact hK _ _ rfl (Below.refl _ _))
    ·clear hq
     simp only [getElem?_toArray, getElem?_cons_zero, getElem?_cons_succ, Option.some.injEq] at ho
     subst ho
     have e45 : vs 45 = _ := he ⟨45, .data⟩ (by simp) rfl
     have e44 : vs 44 = _ := he ⟨44, .guard⟩ (by simp) rfl
     clear he hi SAT WHO TRN TRW PA3 TR3
     cases x <;> cases y
     all_goals
      try simp only [cond_true, cond_false, Bool.true_and, Bool.false_and, Bool.and_true, Bool.and_false, Bool.not_true, Bool.not_false, Bool.true_or, Bool.false_or, Bool.or_true, Bool.or_false] at e45
      try simp only [cond_true, cond_false, Bool.true_and, Bool.false_and, Bool.and_true, Bool.and_false, Bool.not_true, Bool.not_false, Bool.true_or, Bool.false_or, Bool.or_true, Bool.or_false] at e44
      rw [e45, e44] at hK ⊢
      first
       | (refine wifT_yes rfl ?_; simp only [put_someT, setIfInBounds_toArray, set_cons_zero, set_cons_succ] at hK; have HK := Lib.hid hK; clear hK; go_simp; exact HK.out _ _ rfl (Below.refl _ _))
       | (refine wifT_no Bool.false_ne_true ?_; exact hK _ _ rfl (Below.refl _ _))
    ·clear hq
     simp only [getElem?_toArray, getElem?_cons_zero, getElem?_cons_succ, Option.some.injEq] at ho
     subst ho
     have e44 : vs 44 = _ := he ⟨44, .data⟩ (by simp) rfl
     have e46 : vs 46 = _ := he ⟨46, .data⟩ (by simp) rfl
     clear he hi SAT WHO TRN TRW PA3 TR3
     cases x <;> cases y
     all_goals
      try simp only [cond_true, cond_false, Bool.true_and, Bool.false_and, Bool.and_true, Bool.and_false, Bool.not_true, Bool.not_false, Bool.true_or, Bool.false_or, Bool.or_true, Bool.or_false] at e44
      try simp only [cond_true, cond_false, Bool.true_and, Bool.false_and, Bool.and_true, Bool.and_false, Bool.not_true, Bool.not_false, Bool.true_or, Bool.false_or, Bool.or_true, Bool.or_false] at e46
      rw [e44, e46] at hK ⊢
      first
       | (refine wifT_yes rfl ?_; simp only [put_someT, setIfInBounds_toArray, set_cons_zero, set_cons_succ] at hK; have HK := Lib.hid hK; clear hK; go_simp; exact HK.out _ _ rfl (Below.refl _ _))
       | (refine wifT_no Bool.false_ne_true ?_; exact hK _ _ rfl (Below.refl _ _))
   ·obtain rfl | rfl | rfl | rfl | rfl | rfl | rfl | rfl | rfl | rfl | rfl | rfl := (show i = 48 ∨ i = 49 ∨ i = 50 ∨ i = 51 ∨ i = 52 ∨ i = 53 ∨ i = 54 ∨ i = 55 ∨ i = 56 ∨ i = 57 ∨ i = 58 ∨ i = 59 by exact (by omega))
    ·clear hq
     simp only [getElem?_toArray, getElem?_cons_zero, getElem?_cons_succ, Option.some.injEq] at ho
     subst ho
     obtain ⟨g42, e42, t42⟩ := he ⟨42, .data⟩ (by simp) rfl
     simp only [List.length_cons, List.length_nil, Nat.reduceAdd, Nat.zero_add] at e42
     have e47 : vs 47 = _ := he ⟨47, .data⟩ (by simp) rfl
     rw [e42, e47] at hK ⊢
     rw [if_pos (by rfl)]
     simp only [put_someT, setIfInBounds_toArray, set_cons_zero, set_cons_succ] at hK
     have HK := Lib.hid hK
     clear hK he hi hBW
     go_simp
     exact HK.out _ _ ⟨g42, rfl, t42⟩ (Below.refl _ _)
    ·clear hq
     simp only [getElem?_toArray, getElem?_cons_zero, getElem?_cons_succ, Option.some.injEq] at ho
     subst ho
     rw [if_pos (by rfl)]
     simp only [put_someT, setIfInBounds_toArray, set_cons_zero, set_cons_succ] at hK
     have HK := Lib.hid hK
     clear hK he hi hBW
     obtain ⟨_, c0, c1, c2, c3, c4, c5, c6⟩ := XAW.out
     go_simp
     exact HK.out _ _ rfl (Below.refl _ _)
    ·clear hq
     simp only [getElem?_toArray, getElem?_cons_zero, getElem?_cons_succ, Option.some.injEq] at ho
     subst ho
     rw [if_pos (by rfl)]
     simp only [put_someT, setIfInBounds_toArray, set_cons_zero, set_cons_succ] at hK
     have HK := Lib.hid hK
     clear hK he hi hBW
     obtain ⟨_, c0, c1, c2, c3, c4, c5, c6⟩ := XBW.out
     go_simp
     exact HK.out _ _ rfl (Below.refl _ _)
    ·clear hq
     simp only [getElem?_toArray, getElem?_cons_zero, getElem?_cons_succ, Option.some.injEq] at ho
     subst ho
     have e49 : vs 49 = _ := he ⟨49, .data⟩ (by simp) rfl
     have e50 : vs 50 = _ := he ⟨50, .data⟩ (by simp) rfl
     rw [e49, e50] at hK ⊢
     rw [if_pos (by rfl)]
     simp only [put_someT, setIfInBounds_toArray, set_cons_zero, set_cons_succ] at hK
     have HK := Lib.hid hK
     clear hK he hi hBW
     go_simp
     exact HK.out _ _ (ArgsAt.made (l := [Ra, Rb]) rfl (by simp) (all2T (TR3.out W (B34.out.trans (BW.out.mono B34.out.size))).1 (TR3.out W (B34.out.trans (BW.out.mono B34.out.size))).2.1)) ((Below.refl _ _).alloc (Nat.le_refl _) _)
    ·clear hq
     simp only [getElem?_toArray, getElem?_cons_zero, getElem?_cons_succ, Option.some.injEq] at ho
     subst ho
     obtain ⟨g51, e51, t51⟩ := he ⟨51, .data⟩ (by simp) rfl
     simp only [List.length_cons, List.length_nil, Nat.reduceAdd, Nat.zero_add] at e51
     rw [e51] at hK ⊢
     rw [if_pos (by rfl)]
     simp only [put_someT, setIfInBounds_toArray, set_cons_zero, set_cons_succ] at hK
     have HK := Lib.hid hK
     clear hK he hi hBW
     go_simp
     go_at_call 44
     refine (of14_any _ _ _ _ _).mono ?_
     rintro en w9 ⟨rfl, h⟩
     go_simp
     exact HK.out _ _ ⟨g51, rfl, ((t51 _).keeps h).more h.size⟩ h
    ·clear hq
     simp only [getElem?_toArray, getElem?_cons_zero, getElem?_cons_succ, Option.some.injEq] at ho
     subst ho
     rw [if_pos (by rfl)]
     simp only [put_someT, setIfInBounds_toArray, set_cons_zero, set_cons_succ] at hK
     have HK := Lib.hid hK
     clear hK he hi hBW
     go_simp
     exact HK.out _ _ rfl (Below.refl _ _)
    ·clear hq
     simp only [getElem?_toArray, getElem?_cons_zero, getElem?_cons_succ, Option.some.injEq] at ho
     subst ho
     have e53 : vs 53 = _ := he ⟨53, .data⟩ (by simp) rfl
     rw [e53] at hK ⊢
     rw [if_pos (by rfl)]
     simp only [put_someT, setIfInBounds_toArray, set_cons_zero, set_cons_succ] at hK
     have HK := Lib.hid hK
     clear hK he hi hBW
     go_simp
     exact HK.out _ _ rfl (Below.refl _ _)
    ·clear hq
     simp only [getElem?_toArray, getElem?_cons_zero, getElem?_cons_succ, Option.some.injEq] at ho
     subst ho
     have e54 : vs 54 = _ := he ⟨54, .guard⟩ (by simp) rfl
     clear he hi SAT WHO TRN TRW PA3 TR3
     cases x <;> cases y
     all_goals
      try simp only [cond_true, cond_false, Bool.true_and, Bool.false_and, Bool.and_true, Bool.and_false, Bool.not_true, Bool.not_false, Bool.true_or, Bool.false_or, Bool.or_true, Bool.or_false] at e54
      rw [e54] at hK ⊢
      first
       | (refine wifT_yes rfl ?_; simp only [put_someT, setIfInBounds_toArray, set_cons_zero, set_cons_succ] at hK; have HK := Lib.hid hK; clear hK; go_simp; exact HK.out _ _ rfl (Below.refl _ _))
       | (refine wifT_no Bool.false_ne_true ?_; exact hK _ _ rfl (Below.refl _ _))
    ·clear hq
     simp only [getElem?_toArray, getElem?_cons_zero, getElem?_cons_succ, Option.some.injEq] at ho
     subst ho
     have e55 : vs 55 = _ := he ⟨55, .data⟩ (by simp) rfl
     have e54 : vs 54 = _ := he ⟨54, .guard⟩ (by simp) rfl
     clear he hi SAT WHO TRN TRW PA3 TR3
     cases x <;> cases y
     all_goals
      try simp only [cond_true, cond_false, Bool.true_and, Bool.false_and, Bool.and_true, Bool.and_false, Bool.not_true, Bool.not_false, Bool.true_or, Bool.false_or, Bool.or_true, Bool.or_false] at e55
      try simp only [cond_true, cond_false, Bool.true_and, Bool.false_and, Bool.and_true, Bool.and_false, Bool.not_true, Bool.not_false, Bool.true_or, Bool.false_or, Bool.or_true, Bool.or_false] at e54
      rw [e55, e54] at hK ⊢
      first
       | (refine wifT_yes rfl ?_; simp only [put_someT, setIfInBounds_toArray, set_cons_zero, set_cons_succ] at hK; have HK := Lib.hid hK; clear hK; go_simp; exact HK.out _ _ rfl (Below.refl _ _))
       | (refine wifT_no Bool.false_ne_true ?_; exact hK _ _ rfl (Below.refl _ _))
    ·clear hq
     simp only [getElem?_toArray, getElem?_cons_zero, getElem?_cons_succ, Option.some.injEq] at ho
     subst ho
     have e54 : vs 54 = _ := he ⟨54, .data⟩ (by simp) rfl
     have e56 : vs 56 = _ := he ⟨56, .data⟩ (by simp) rfl
     clear he hi SAT WHO TRN TRW PA3 TR3
     cases x <;> cases y
     all_goals
      try simp only [cond_true, cond_false, Bool.true_and, Bool.false_and, Bool.and_true, Bool.and_false, Bool.not_true, Bool.not_false, Bool.true_or, Bool.false_or, Bool.or_true, Bool.or_false] at e54
      try simp only [cond_true, cond_false, Bool.true_and, Bool.false_and, Bool.and_true, Bool.and_false, Bool.not_true, Bool.not_false, Bool.true_or, Bool.false_or, Bool.or_true, Bool.or_false] at e56
      rw [e54, e56] at hK ⊢
      first
       | (refine wifT_yes rfl ?_; simp only [put_someT, setIfInBounds_toArray, set_cons_zero, set_cons_succ] at hK; have HK := Lib.hid hK; clear hK; go_simp; exact HK.out _ _ rfl (Below.refl _ _))
       | (refine wifT_no Bool.false_ne_true ?_; exact hK _ _ rfl (Below.refl _ _))
    ·clear hq
     simp only [getElem?_toArray, getElem?_cons_zero, getElem?_cons_succ, Option.some.injEq] at ho
     subst ho
     obtain ⟨g52, e52, t52⟩ := he ⟨52, .data⟩ (by simp) rfl
     simp only [List.length_cons, List.length_nil, Nat.reduceAdd, Nat.zero_add] at e52
     have e57 : vs 57 = _ := he ⟨57, .data⟩ (by simp) rfl
     rw [e52, e57] at hK ⊢
     rw [if_pos (by rfl)]
     simp only [put_someT, setIfInBounds_toArray, set_cons_zero, set_cons_succ] at hK
     have HK := Lib.hid hK
     clear hK he hi hBW
     go_simp
     exact HK.out _ _ ⟨g52, rfl, t52⟩ (Below.refl _ _)
    ·clear hq
     simp only [getElem?_toArray, getElem?_cons_zero, getElem?_cons_succ, Option.some.injEq] at ho
     subst ho
     rw [if_pos (by rfl)]
     simp only [put_someT, setIfInBounds_toArray, set_cons_zero, set_cons_succ] at hK
     have HK := Lib.hid hK
     clear hK he hi hBW
     obtain ⟨_, c0, c1, c2, c3, c4, c5, c6⟩ := XAW.out
     go_simp
     exact HK.out _ _ rfl (Below.refl _ _)
   ·obtain rfl | rfl | rfl | rfl | rfl | rfl | rfl | rfl | rfl | rfl | rfl | rfl := (show i = 60 ∨ i = 61 ∨ i = 62 ∨ i = 63 ∨ i = 64 ∨ i = 65 ∨ i = 66 ∨ i = 67 ∨ i = 68 ∨ i = 69 ∨ i = 70 ∨ i = 71 by exact (by omega))
    ·clear hq
     simp only [getElem?_toArray, getElem?_cons_zero, getElem?_cons_succ, Option.some.injEq] at ho
     subst ho
     rw [if_pos (by rfl)]
     simp only [put_someT, setIfInBounds_toArray, set_cons_zero, set_cons_succ] at hK
     have HK := Lib.hid hK
     clear hK he hi hBW
     obtain ⟨_, c0, c1, c2, c3, c4, c5, c6⟩ := XBW.out
     go_simp
     exact HK.out _ _ rfl (Below.refl _ _)
    ·clear hq
     simp only [getElem?_toArray, getElem?_cons_zero, getElem?_cons_succ, Option.some.injEq] at ho
     subst ho
     rw [if_pos (by rfl)]
     simp only [put_someT, setIfInBounds_toArray, set_cons_zero, set_cons_succ] at hK
     have HK := Lib.hid hK
     clear hK he hi hBW
     obtain ⟨_, c0, c1, c2, c3, c4, c5, c6⟩ := XCW.out
     go_simp
     exact HK.out _ _ rfl (Below.refl _ _)
    ·clear hq
     simp only [getElem?_toArray, getElem?_cons_zero, getElem?_cons_succ, Option.some.injEq] at ho
     subst ho
     have e59 : vs 59 = _ := he ⟨59, .data⟩ (by simp) rfl
     have e60 : vs 60 = _ := he ⟨60, .data⟩ (by simp) rfl
     have e61 : vs 61 = _ := he ⟨61, .data⟩ (by simp) rfl
     rw [e59, e60, e61] at hK ⊢
     rw [if_pos (by rfl)]
     simp only [put_someT, setIfInBounds_toArray, set_cons_zero, set_cons_succ] at hK
     have HK := Lib.hid hK
     clear hK he hi hBW
     go_simp
     exact HK.out _ _ (ArgsAt.made (l := [Ra, Rb, Rc]) rfl (by simp) (all3T (TR3.out W (B34.out.trans (BW.out.mono B34.out.size))).1 (TR3.out W (B34.out.trans (BW.out.mono B34.out.size))).2.1 (TR3.out W (B34.out.trans (BW.out.mono B34.out.size))).2.2)) ((Below.refl _ _).alloc (Nat.le_refl _) _)
    ·clear hq
     simp only [getElem?_toArray, getElem?_cons_zero, getElem?_cons_succ, Option.some.injEq] at ho
     subst ho
     obtain ⟨g62, e62, t62⟩ := he ⟨62, .data⟩ (by simp) rfl
     simp only [List.length_cons, List.length_nil, Nat.reduceAdd, Nat.zero_add] at e62
     rw [e62] at hK ⊢
     rw [if_pos (by rfl)]
     simp only [put_someT, setIfInBounds_toArray, set_cons_zero, set_cons_succ] at hK
     have HK := Lib.hid hK
     clear hK he hi hBW
     go_simp
     go_at_call 44
     refine (of14_any _ _ _ _ _).mono ?_
     rintro en w9 ⟨rfl, h⟩
     go_simp
     exact HK.out _ _ ⟨g62, rfl, ((t62 _).keeps h).more h.size⟩ h
    ·clear hq
     simp only [getElem?_toArray, getElem?_cons_zero, getElem?_cons_succ, Option.some.injEq] at ho
     subst ho
     rw [if_pos (by rfl)]
     simp only [put_someT, setIfInBounds_toArray, set_cons_zero, set_cons_succ] at hK
     have HK := Lib.hid hK
     clear hK he hi hBW
     go_simp
     exact HK.out _ _ rfl (Below.refl _ _)
    ·clear hq
     simp only [getElem?_toArray, getElem?_cons_zero, getElem?_cons_succ, Option.some.injEq] at ho
     subst ho
     have e64 : vs 64 = _ := he ⟨64, .data⟩ (by simp) rfl
     rw [e64] at hK ⊢
     rw [if_pos (by rfl)]
     simp only [put_someT, setIfInBounds_toArray, set_cons_zero, set_cons_succ] at hK
     have HK := Lib.hid hK
     clear hK he hi hBW
     go_simp
     exact HK.out _ _ rfl (Below.refl _ _)
    ·clear hq
     simp only [getElem?_toArray, getElem?_cons_zero, getElem?_cons_succ, Option.some.injEq] at ho
     subst ho
     have e65 : vs 65 = _ := he ⟨65, .guard⟩ (by simp) rfl
     clear he hi SAT WHO TRN TRW PA3 TR3
     cases x <;> cases y
     all_goals
      try simp only [cond_true, cond_false, Bool.true_and, Bool.false_and, Bool.and_true, Bool.and_false, Bool.not_true, Bool.not_false, Bool.true_or, Bool.false_or, Bool.or_true, Bool.or_false] at e65
      rw [e65] at hK ⊢
      first
       | (refine wifT_yes rfl ?_; simp only [put_someT, setIfInBounds_toArray, set_cons_zero, set_cons_succ] at hK; have HK := Lib.hid hK; clear hK; go_simp; exact HK.out _ _ rfl (Below.refl _ _))
       | (refine wifT_no Bool.false_ne_true ?_; exact hK _ _ rfl (Below.refl _ _))
    ·clear hq
     simp only [getElem?_toArray, getElem?_cons_zero, getElem?_cons_succ, Option.some.injEq] at ho
     subst ho
     have e65 : vs 65 = _ := he ⟨65, .data⟩ (by simp) rfl
     have e66 : vs 66 = _ := he ⟨66, .data⟩ (by simp) rfl
     clear he hi SAT WHO TRN TRW PA3 TR3
     cases x <;> cases y
     all_goals
      try simp only [cond_true, cond_false, Bool.true_and, Bool.false_and, Bool.and_true, Bool.and_false, Bool.not_true, Bool.not_false, Bool.true_or, Bool.false_or, Bool.or_true, Bool.or_false] at e65
      try simp only [cond_true, cond_false, Bool.true_and, Bool.false_and, Bool.and_true, Bool.and_false, Bool.not_true, Bool.not_false, Bool.true_or, Bool.false_or, Bool.or_true, Bool.or_false] at e66
      rw [e65, e66] at hK ⊢
      first
       | (refine wifT_yes rfl ?_; simp only [put_someT, setIfInBounds_toArray, set_cons_zero, set_cons_succ] at hK; have HK := Lib.hid hK; clear hK; go_simp; exact HK.out _ _ rfl (Below.refl _ _))
       | (refine wifT_no Bool.false_ne_true ?_; exact hK _ _ rfl (Below.refl _ _))
    ·clear hq
     simp only [getElem?_toArray, getElem?_cons_zero, getElem?_cons_succ, Option.some.injEq] at ho
     subst ho
     have e67 : vs 67 = _ := he ⟨67, .data⟩ (by simp) rfl
     rw [e67] at hK ⊢
     rw [if_pos (by rfl)]
     simp only [put_someT, setIfInBounds_toArray, set_cons_zero, set_cons_succ] at hK
     have HK := Lib.hid hK
     clear hK he hi hBW
     go_simp
     exact HK.out _ _ rfl (Below.refl _ _)
    ·clear hq
     simp only [getElem?_toArray, getElem?_cons_zero, getElem?_cons_succ, Option.some.injEq] at ho
     subst ho
     have e68 : vs 68 = _ := he ⟨68, .guard⟩ (by simp) rfl
     clear he hi SAT WHO TRN TRW PA3 TR3
     cases x <;> cases y
     all_goals
      try simp only [cond_true, cond_false, Bool.true_and, Bool.false_and, Bool.and_true, Bool.and_false, Bool.not_true, Bool.not_false, Bool.true_or, Bool.false_or, Bool.or_true, Bool.or_false] at e68
      rw [e68] at hK ⊢
      first
       | (refine wifT_yes rfl ?_; simp only [put_someT, setIfInBounds_toArray, set_cons_zero, set_cons_succ] at hK; have HK := Lib.hid hK; clear hK; go_simp; exact HK.out _ _ rfl (Below.refl _ _))
       | (refine wifT_no Bool.false_ne_true ?_; exact hK _ _ rfl (Below.refl _ _))
    ·clear hq
     simp only [getElem?_toArray, getElem?_cons_zero, getElem?_cons_succ, Option.some.injEq] at ho
     subst ho
     have e69 : vs 69 = _ := he ⟨69, .data⟩ (by simp) rfl
     have e68 : vs 68 = _ := he ⟨68, .guard⟩ (by simp) rfl
     clear he hi SAT WHO TRN TRW PA3 TR3
     cases x <;> cases y
     all_goals
      try simp only [cond_true, cond_false, Bool.true_and, Bool.false_and, Bool.and_true, Bool.and_false, Bool.not_true, Bool.not_false, Bool.true_or, Bool.false_or, Bool.or_true, Bool.or_false] at e69
      try simp only [cond_true, cond_false, Bool.true_and, Bool.false_and, Bool.and_true, Bool.and_false, Bool.not_true, Bool.not_false, Bool.true_or, Bool.false_or, Bool.or_true, Bool.or_false] at e68
      rw [e69, e68] at hK ⊢
      first
       | (refine wifT_yes rfl ?_; simp only [put_someT, setIfInBounds_toArray, set_cons_zero, set_cons_succ] at hK; have HK := Lib.hid hK; clear hK; go_simp; exact HK.out _ _ rfl (Below.refl _ _))
       | (refine wifT_no Bool.false_ne_true ?_; exact hK _ _ rfl (Below.refl _ _))
    ·clear hq
     simp only [getElem?_toArray, getElem?_cons_zero, getElem?_cons_succ, Option.some.injEq] at ho
     subst ho
     have e70 : vs 70 = _ := he ⟨70, .data⟩ (by simp) rfl
     have e68 : vs 68 = _ := he ⟨68, .guard⟩ (by simp) rfl
     clear he hi SAT WHO TRN TRW PA3 TR3
     cases x <;> cases y
     all_goals
      try simp only [cond_true, cond_false, Bool.true_and, Bool.false_and, Bool.and_true, Bool.and_false, Bool.not_true, Bool.not_false, Bool.true_or, Bool.false_or, Bool.or_true, Bool.or_false] at e70
      try simp only [cond_true, cond_false, Bool.true_and, Bool.false_and, Bool.and_true, Bool.and_false, Bool.not_true, Bool.not_false, Bool.true_or, Bool.false_or, Bool.or_true, Bool.or_false] at e68
      rw [e70, e68] at hK ⊢
      first
       | (refine wifT_yes rfl ?_; simp only [put_someT, setIfInBounds_toArray, set_cons_zero, set_cons_succ] at hK; have HK := Lib.hid hK; clear hK; go_simp; exact HK.out _ _ rfl (Below.refl _ _))
       | (refine wifT_no Bool.false_ne_true ?_; exact hK _ _ rfl (Below.refl _ _))
   ·obtain rfl | rfl | rfl | rfl | rfl | rfl | rfl | rfl | rfl | rfl | rfl | rfl := (show i = 72 ∨ i = 73 ∨ i = 74 ∨ i = 75 ∨ i = 76 ∨ i = 77 ∨ i = 78 ∨ i = 79 ∨ i = 80 ∨ i = 81 ∨ i = 82 ∨ i = 83 by exact (by omega))
    ·clear hq
     simp only [getElem?_toArray, getElem?_cons_zero, getElem?_cons_succ, Option.some.injEq] at ho
     subst ho
     have e71 : vs 71 = _ := he ⟨71, .guard⟩ (by simp) rfl
     clear he hi SAT WHO TRN TRW PA3 TR3
     cases x <;> cases y
     all_goals
      try simp only [cond_true, cond_false, Bool.true_and, Bool.false_and, Bool.and_true, Bool.and_false, Bool.not_true, Bool.not_false, Bool.true_or, Bool.false_or, Bool.or_true, Bool.or_false] at e71
      rw [e71] at hK ⊢
      first
       | (refine wifT_yes rfl ?_; simp only [put_someT, setIfInBounds_toArray, set_cons_zero, set_cons_succ] at hK; have HK := Lib.hid hK; clear hK; go_simp; exact HK.out _ _ rfl (Below.refl _ _))
       | (refine wifT_no Bool.false_ne_true ?_; exact hK _ _ rfl (Below.refl _ _))
    ·clear hq
     simp only [getElem?_toArray, getElem?_cons_zero, getElem?_cons_succ, Option.some.injEq] at ho
     subst ho
     have e71 : vs 71 = _ := he ⟨71, .data⟩ (by simp) rfl
     have e72 : vs 72 = _ := he ⟨72, .data⟩ (by simp) rfl
     have e68 : vs 68 = _ := he ⟨68, .guard⟩ (by simp) rfl
     clear he hi SAT WHO TRN TRW PA3 TR3
     cases x <;> cases y
     all_goals
      try simp only [cond_true, cond_false, Bool.true_and, Bool.false_and, Bool.and_true, Bool.and_false, Bool.not_true, Bool.not_false, Bool.true_or, Bool.false_or, Bool.or_true, Bool.or_false] at e71
      try simp only [cond_true, cond_false, Bool.true_and, Bool.false_and, Bool.and_true, Bool.and_false, Bool.not_true, Bool.not_false, Bool.true_or, Bool.false_or, Bool.or_true, Bool.or_false] at e72
      try simp only [cond_true, cond_false, Bool.true_and, Bool.false_and, Bool.and_true, Bool.and_false, Bool.not_true, Bool.not_false, Bool.true_or, Bool.false_or, Bool.or_true, Bool.or_false] at e68
      rw [e71, e72, e68] at hK ⊢
      first
       | (refine wifT_yes rfl ?_; simp only [put_someT, setIfInBounds_toArray, set_cons_zero, set_cons_succ] at hK; have HK := Lib.hid hK; clear hK; go_simp; exact HK.out _ _ rfl (Below.refl _ _))
       | (refine wifT_no Bool.false_ne_true ?_; exact hK _ _ rfl (Below.refl _ _))
    ·clear hq
     simp only [getElem?_toArray, getElem?_cons_zero, getElem?_cons_succ, Option.some.injEq] at ho
     subst ho
     have e68 : vs 68 = _ := he ⟨68, .data⟩ (by simp) rfl
     have e73 : vs 73 = _ := he ⟨73, .data⟩ (by simp) rfl
     clear he hi SAT WHO TRN TRW PA3 TR3
     cases x <;> cases y
     all_goals
      try simp only [cond_true, cond_false, Bool.true_and, Bool.false_and, Bool.and_true, Bool.and_false, Bool.not_true, Bool.not_false, Bool.true_or, Bool.false_or, Bool.or_true, Bool.or_false] at e68
      try simp only [cond_true, cond_false, Bool.true_and, Bool.false_and, Bool.and_true, Bool.and_false, Bool.not_true, Bool.not_false, Bool.true_or, Bool.false_or, Bool.or_true, Bool.or_false] at e73
      rw [e68, e73] at hK ⊢
      first
       | (refine wifT_yes rfl ?_; simp only [put_someT, setIfInBounds_toArray, set_cons_zero, set_cons_succ] at hK; have HK := Lib.hid hK; clear hK; go_simp; exact HK.out _ _ rfl (Below.refl _ _))
       | (refine wifT_no Bool.false_ne_true ?_; exact hK _ _ rfl (Below.refl _ _))
    ·clear hq
     simp only [getElem?_toArray, getElem?_cons_zero, getElem?_cons_succ, Option.some.injEq] at ho
     subst ho
     obtain ⟨g63, e63, t63⟩ := he ⟨63, .data⟩ (by simp) rfl
     simp only [List.length_cons, List.length_nil, Nat.reduceAdd, Nat.zero_add] at e63
     have e74 : vs 74 = _ := he ⟨74, .data⟩ (by simp) rfl
     rw [e63, e74] at hK ⊢
     rw [if_pos (by rfl)]
     simp only [put_someT, setIfInBounds_toArray, set_cons_zero, set_cons_succ] at hK
     have HK := Lib.hid hK
     clear hK he hi hBW
     go_simp
     exact HK.out _ _ ⟨g63, rfl, t63⟩ (Below.refl _ _)
    ·clear hq
     simp only [getElem?_toArray, getElem?_cons_zero, getElem?_cons_succ, Option.some.injEq] at ho
     subst ho
     rw [if_pos (by rfl)]
     simp only [put_someT, setIfInBounds_toArray, set_cons_zero, set_cons_succ] at hK
     have HK := Lib.hid hK
     clear hK he hi hBW
     obtain ⟨_, c0, c1, c2, c3, c4, c5, c6⟩ := XCW.out
     go_simp
     exact HK.out _ _ rfl (Below.refl _ _)
    ·clear hq
     simp only [getElem?_toArray, getElem?_cons_zero, getElem?_cons_succ, Option.some.injEq] at ho
     subst ho
     rw [if_pos (by rfl)]
     simp only [put_someT, setIfInBounds_toArray, set_cons_zero, set_cons_succ] at hK
     have HK := Lib.hid hK
     clear hK he hi hBW
     obtain ⟨_, c0, c1, c2, c3, c4, c5, c6⟩ := XBW.out
     go_simp
     exact HK.out _ _ rfl (Below.refl _ _)
    ·clear hq
     simp only [getElem?_toArray, getElem?_cons_zero, getElem?_cons_succ, Option.some.injEq] at ho
     subst ho
     rw [if_pos (by rfl)]
     simp only [put_someT, setIfInBounds_toArray, set_cons_zero, set_cons_succ] at hK
     have HK := Lib.hid hK
     clear hK he hi hBW
     obtain ⟨_, c0, c1, c2, c3, c4, c5, c6⟩ := XAW.out
     go_simp
     exact HK.out _ _ rfl (Below.refl _ _)
    ·clear hq
     simp only [getElem?_toArray, getElem?_cons_zero, getElem?_cons_succ, Option.some.injEq] at ho
     subst ho
     have e76 : vs 76 = _ := he ⟨76, .data⟩ (by simp) rfl
     have e77 : vs 77 = _ := he ⟨77, .data⟩ (by simp) rfl
     have e78 : vs 78 = _ := he ⟨78, .data⟩ (by simp) rfl
     rw [e76, e77, e78] at hK ⊢
     rw [if_pos (by rfl)]
     simp only [put_someT, setIfInBounds_toArray, set_cons_zero, set_cons_succ] at hK
     have HK := Lib.hid hK
     clear hK he hi hBW
     go_simp
     exact HK.out _ _ (ArgsAt.made (l := [Rc, Rb, Ra]) rfl (by simp) (all3T (TR3.out W (B34.out.trans (BW.out.mono B34.out.size))).2.2 (TR3.out W (B34.out.trans (BW.out.mono B34.out.size))).2.1 (TR3.out W (B34.out.trans (BW.out.mono B34.out.size))).1)) ((Below.refl _ _).alloc (Nat.le_refl _) _)
    ·clear hq
     simp only [getElem?_toArray, getElem?_cons_zero, getElem?_cons_succ, Option.some.injEq] at ho
     subst ho
     obtain ⟨g79, e79, t79⟩ := he ⟨79, .data⟩ (by simp) rfl
     simp only [List.length_cons, List.length_nil, Nat.reduceAdd, Nat.zero_add] at e79
     rw [e79] at hK ⊢
     rw [if_pos (by rfl)]
     simp only [put_someT, setIfInBounds_toArray, set_cons_zero, set_cons_succ] at hK
     have HK := Lib.hid hK
     clear hK he hi hBW
     go_simp
     go_at_call 44
     refine (of14_any _ _ _ _ _).mono ?_
     rintro en w9 ⟨rfl, h⟩
     go_simp
     exact HK.out _ _ ⟨g79, rfl, ((t79 _).keeps h).more h.size⟩ h
    ·clear hq
     simp only [getElem?_toArray, getElem?_cons_zero, getElem?_cons_succ, Option.some.injEq] at ho
     subst ho
     rw [if_pos (by rfl)]
     simp only [put_someT, setIfInBounds_toArray, set_cons_zero, set_cons_succ] at hK
     have HK := Lib.hid hK
     clear hK he hi hBW
     go_simp
     exact HK.out _ _ rfl (Below.refl _ _)
    ·clear hq
     simp only [getElem?_toArray, getElem?_cons_zero, getElem?_cons_succ, Option.some.injEq] at ho
     subst ho
     have e81 : vs 81 = _ := he ⟨81, .data⟩ (by simp) rfl
     rw [e81] at hK ⊢
     rw [if_pos (by rfl)]
     simp only [put_someT, setIfInBounds_toArray, set_cons_zero, set_cons_succ] at hK
     have HK := Lib.hid hK
     clear hK he hi hBW
     go_simp
     exact HK.out _ _ rfl (Below.refl _ _)
    ·clear hq
     simp only [getElem?_toArray, getElem?_cons_zero, getElem?_cons_succ, Option.some.injEq] at ho
     subst ho
     have e82 : vs 82 = _ := he ⟨82, .guard⟩ (by simp) rfl
     clear he hi SAT WHO TRN TRW PA3 TR3
     cases x <;> cases y
     all_goals
      try simp only [cond_true, cond_false, Bool.true_and, Bool.false_and, Bool.and_true, Bool.and_false, Bool.not_true, Bool.not_false, Bool.true_or, Bool.false_or, Bool.or_true, Bool.or_false] at e82
      rw [e82] at hK ⊢
      first
       | (refine wifT_yes rfl ?_; simp only [put_someT, setIfInBounds_toArray, set_cons_zero, set_cons_succ] at hK; have HK := Lib.hid hK; clear hK; go_simp; exact HK.out _ _ rfl (Below.refl _ _))
       | (refine wifT_no Bool.false_ne_true ?_; exact hK _ _ rfl (Below.refl _ _))
   ·obtain rfl | rfl | rfl | rfl | rfl | rfl | rfl | rfl | rfl | rfl | rfl := (show i = 84 ∨ i = 85 ∨ i = 86 ∨ i = 87 ∨ i = 88 ∨ i = 89 ∨ i = 90 ∨ i = 91 ∨ i = 92 ∨ i = 93 ∨ i = 94 by exact (by omega))
    ·clear hq
     simp only [getElem?_toArray, getElem?_cons_zero, getElem?_cons_succ, Option.some.injEq] at ho
     subst ho
     have e82 : vs 82 = _ := he ⟨82, .data⟩ (by simp) rfl
     have e83 : vs 83 = _ := he ⟨83, .data⟩ (by simp) rfl
     clear he hi SAT WHO TRN TRW PA3 TR3
     cases x <;> cases y
     all_goals
      try simp only [cond_true, cond_false, Bool.true_and, Bool.false_and, Bool.and_true, Bool.and_false, Bool.not_true, Bool.not_false, Bool.true_or, Bool.false_or, Bool.or_true, Bool.or_false] at e82
      try simp only [cond_true, cond_false, Bool.true_and, Bool.false_and, Bool.and_true, Bool.and_false, Bool.not_true, Bool.not_false, Bool.true_or, Bool.false_or, Bool.or_true, Bool.or_false] at e83
      rw [e82, e83] at hK ⊢
      first
       | (refine wifT_yes rfl ?_; simp only [put_someT, setIfInBounds_toArray, set_cons_zero, set_cons_succ] at hK; have HK := Lib.hid hK; clear hK; go_simp; exact HK.out _ _ rfl (Below.refl _ _))
       | (refine wifT_no Bool.false_ne_true ?_; exact hK _ _ rfl (Below.refl _ _))
    ·clear hq
     simp only [getElem?_toArray, getElem?_cons_zero, getElem?_cons_succ, Option.some.injEq] at ho
     subst ho
     have e84 : vs 84 = _ := he ⟨84, .data⟩ (by simp) rfl
     rw [e84] at hK ⊢
     rw [if_pos (by rfl)]
     simp only [put_someT, setIfInBounds_toArray, set_cons_zero, set_cons_succ] at hK
     have HK := Lib.hid hK
     clear hK he hi hBW
     go_simp
     exact HK.out _ _ rfl (Below.refl _ _)
    ·clear hq
     simp only [getElem?_toArray, getElem?_cons_zero, getElem?_cons_succ, Option.some.injEq] at ho
     subst ho
     have e85 : vs 85 = _ := he ⟨85, .guard⟩ (by simp) rfl
     clear he hi SAT WHO TRN TRW PA3 TR3
     cases x <;> cases y
     all_goals
      try simp only [cond_true, cond_false, Bool.true_and, Bool.false_and, Bool.and_true, Bool.and_false, Bool.not_true, Bool.not_false, Bool.true_or, Bool.false_or, Bool.or_true, Bool.or_false] at e85
      rw [e85] at hK ⊢
      first
       | (refine wifT_yes rfl ?_; simp only [put_someT, setIfInBounds_toArray, set_cons_zero, set_cons_succ] at hK; have HK := Lib.hid hK; clear hK; go_simp; exact HK.out _ _ rfl (Below.refl _ _))
       | (refine wifT_no Bool.false_ne_true ?_; exact hK _ _ rfl (Below.refl _ _))
    ·clear hq
     simp only [getElem?_toArray, getElem?_cons_zero, getElem?_cons_succ, Option.some.injEq] at ho
     subst ho
     have e86 : vs 86 = _ := he ⟨86, .data⟩ (by simp) rfl
     have e85 : vs 85 = _ := he ⟨85, .guard⟩ (by simp) rfl
     clear he hi SAT WHO TRN TRW PA3 TR3
     cases x <;> cases y
     all_goals
      try simp only [cond_true, cond_false, Bool.true_and, Bool.false_and, Bool.and_true, Bool.and_false, Bool.not_true, Bool.not_false, Bool.true_or, Bool.false_or, Bool.or_true, Bool.or_false] at e86
      try simp only [cond_true, cond_false, Bool.true_and, Bool.false_and, Bool.and_true, Bool.and_false, Bool.not_true, Bool.not_false, Bool.true_or, Bool.false_or, Bool.or_true, Bool.or_false] at e85
      rw [e86, e85] at hK ⊢
      first
       | (refine wifT_yes rfl ?_; simp only [put_someT, setIfInBounds_toArray, set_cons_zero, set_cons_succ] at hK; have HK := Lib.hid hK; clear hK; go_simp; exact HK.out _ _ rfl (Below.refl _ _))
       | (refine wifT_no Bool.false_ne_true ?_; exact hK _ _ rfl (Below.refl _ _))
    ·clear hq
     simp only [getElem?_toArray, getElem?_cons_zero, getElem?_cons_succ, Option.some.injEq] at ho
     subst ho
     have e87 : vs 87 = _ := he ⟨87, .data⟩ (by simp) rfl
     have e85 : vs 85 = _ := he ⟨85, .guard⟩ (by simp) rfl
     clear he hi SAT WHO TRN TRW PA3 TR3
     cases x <;> cases y
     all_goals
      try simp only [cond_true, cond_false, Bool.true_and, Bool.false_and, Bool.and_true, Bool.and_false, Bool.not_true, Bool.not_false, Bool.true_or, Bool.false_or, Bool.or_true, Bool.or_false] at e87
      try simp only [cond_true, cond_false, Bool.true_and, Bool.false_and, Bool.and_true, Bool.and_false, Bool.not_true, Bool.not_false, Bool.true_or, Bool.false_or, Bool.or_true, Bool.or_false] at e85
      rw [e87, e85] at hK ⊢
      first
       | (refine wifT_yes rfl ?_; simp only [put_someT, setIfInBounds_toArray, set_cons_zero, set_cons_succ] at hK; have HK := Lib.hid hK; clear hK; go_simp; exact HK.out _ _ rfl (Below.refl _ _))
       | (refine wifT_no Bool.false_ne_true ?_; exact hK _ _ rfl (Below.refl _ _))
    ·clear hq
     simp only [getElem?_toArray, getElem?_cons_zero, getElem?_cons_succ, Option.some.injEq] at ho
     subst ho
     have e88 : vs 88 = _ := he ⟨88, .guard⟩ (by simp) rfl
     clear he hi SAT WHO TRN TRW PA3 TR3
     cases x <;> cases y
     all_goals
      try simp only [cond_true, cond_false, Bool.true_and, Bool.false_and, Bool.and_true, Bool.and_false, Bool.not_true, Bool.not_false, Bool.true_or, Bool.false_or, Bool.or_true, Bool.or_false] at e88
      rw [e88] at hK ⊢
      first
       | (refine wifT_yes rfl ?_; simp only [put_someT, setIfInBounds_toArray, set_cons_zero, set_cons_succ] at hK; have HK := Lib.hid hK; clear hK; go_simp; exact HK.out _ _ rfl (Below.refl _ _))
       | (refine wifT_no Bool.false_ne_true ?_; exact hK _ _ rfl (Below.refl _ _))
    ·clear hq
     simp only [getElem?_toArray, getElem?_cons_zero, getElem?_cons_succ, Option.some.injEq] at ho
     subst ho
     have e88 : vs 88 = _ := he ⟨88, .data⟩ (by simp) rfl
     have e89 : vs 89 = _ := he ⟨89, .data⟩ (by simp) rfl
     have e85 : vs 85 = _ := he ⟨85, .guard⟩ (by simp) rfl
     clear he hi SAT WHO TRN TRW PA3 TR3
     cases x <;> cases y
     all_goals
      try simp only [cond_true, cond_false, Bool.true_and, Bool.false_and, Bool.and_true, Bool.and_false, Bool.not_true, Bool.not_false, Bool.true_or, Bool.false_or, Bool.or_true, Bool.or_false] at e88
      try simp only [cond_true, cond_false, Bool.true_and, Bool.false_and, Bool.and_true, Bool.and_false, Bool.not_true, Bool.not_false, Bool.true_or, Bool.false_or, Bool.or_true, Bool.or_false] at e89
      try simp only [cond_true, cond_false, Bool.true_and, Bool.false_and, Bool.and_true, Bool.and_false, Bool.not_true, Bool.not_false, Bool.true_or, Bool.false_or, Bool.or_true, Bool.or_false] at e85
      rw [e88, e89, e85] at hK ⊢
      first
       | (refine wifT_yes rfl ?_; simp only [put_someT, setIfInBounds_toArray, set_cons_zero, set_cons_succ] at hK; have HK := Lib.hid hK; clear hK; go_simp; exact HK.out _ _ rfl (Below.refl _ _))
       | (refine wifT_no Bool.false_ne_true ?_; exact hK _ _ rfl (Below.refl _ _))
    ·clear hq
     simp only [getElem?_toArray, getElem?_cons_zero, getElem?_cons_succ, Option.some.injEq] at ho
     subst ho
     have e85 : vs 85 = _ := he ⟨85, .data⟩ (by simp) rfl
     have e90 : vs 90 = _ := he ⟨90, .data⟩ (by simp) rfl
     clear he hi SAT WHO TRN TRW PA3 TR3
     cases x <;> cases y
     all_goals
      try simp only [cond_true, cond_false, Bool.true_and, Bool.false_and, Bool.and_true, Bool.and_false, Bool.not_true, Bool.not_false, Bool.true_or, Bool.false_or, Bool.or_true, Bool.or_false] at e85
      try simp only [cond_true, cond_false, Bool.true_and, Bool.false_and, Bool.and_true, Bool.and_false, Bool.not_true, Bool.not_false, Bool.true_or, Bool.false_or, Bool.or_true, Bool.or_false] at e90
      rw [e85, e90] at hK ⊢
      first
       | (refine wifT_yes rfl ?_; simp only [put_someT, setIfInBounds_toArray, set_cons_zero, set_cons_succ] at hK; have HK := Lib.hid hK; clear hK; go_simp; exact HK.out _ _ rfl (Below.refl _ _))
       | (refine wifT_no Bool.false_ne_true ?_; exact hK _ _ rfl (Below.refl _ _))
    ·clear hq
     simp only [getElem?_toArray, getElem?_cons_zero, getElem?_cons_succ, Option.some.injEq] at ho
     subst ho
     obtain ⟨g80, e80, t80⟩ := he ⟨80, .data⟩ (by simp) rfl
     simp only [List.length_cons, List.length_nil, Nat.reduceAdd, Nat.zero_add] at e80
     have e91 : vs 91 = _ := he ⟨91, .data⟩ (by simp) rfl
     rw [e80, e91] at hK ⊢
     rw [if_pos (by rfl)]
     simp only [put_someT, setIfInBounds_toArray, set_cons_zero, set_cons_succ] at hK
     have HK := Lib.hid hK
     clear hK he hi hBW
     go_simp
     exact HK.out _ _ ⟨g80, rfl, t80⟩ (Below.refl _ _)
    ·clear hq
     simp only [getElem?_toArray, getElem?_cons_zero, getElem?_cons_succ, Option.some.injEq] at ho
     subst ho
     obtain ⟨g12, e12, t12⟩ := he ⟨12, .data⟩ (by simp) rfl
     simp only [List.length_cons, List.length_nil, Nat.reduceAdd, Nat.zero_add] at e12
     obtain ⟨g25, e25, t25⟩ := he ⟨25, .data⟩ (by simp) rfl
     simp only [List.length_cons, List.length_nil, Nat.reduceAdd, Nat.zero_add] at e25
     obtain ⟨g38, e38, t38⟩ := he ⟨38, .data⟩ (by simp) rfl
     simp only [List.length_cons, List.length_nil, Nat.reduceAdd, Nat.zero_add] at e38
     obtain ⟨g48, e48, t48⟩ := he ⟨48, .data⟩ (by simp) rfl
     simp only [List.length_cons, List.length_nil, Nat.reduceAdd, Nat.zero_add] at e48
     obtain ⟨g58, e58, t58⟩ := he ⟨58, .data⟩ (by simp) rfl
     simp only [List.length_cons, List.length_nil, Nat.reduceAdd, Nat.zero_add] at e58
     obtain ⟨g75, e75, t75⟩ := he ⟨75, .data⟩ (by simp) rfl
     simp only [List.length_cons, List.length_nil, Nat.reduceAdd, Nat.zero_add] at e75
     obtain ⟨g92, e92, t92⟩ := he ⟨92, .data⟩ (by simp) rfl
     simp only [List.length_cons, List.length_nil, Nat.reduceAdd, Nat.zero_add] at e92
     rw [e12, e25, e38, e48, e58, e75, e92] at hK ⊢
     rw [if_pos (by rfl)]
     simp only [put_someT, setIfInBounds_toArray, set_cons_zero, set_cons_succ] at hK
     have HK := Lib.hid hK
     clear hK he hi hBW
     go_simp
     exact HK.out _ _ (PairsAt.made t12 t25 t38 t48 t58 t75 t92 rfl rfl rfl rfl rfl rfl rfl rfl) ((Below.refl _ _).alloc (Nat.le_refl _) _)
    ·clear hq
     simp only [getElem?_toArray, getElem?_cons_zero, getElem?_cons_succ, Option.some.injEq] at ho
     subst ho
     obtain ⟨g93, l93, e93, k1_93, k2_93, k3_93, k4_93⟩ := he ⟨93, .data⟩ (by simp) rfl
     rw [e93] at hK ⊢
     rw [if_pos (by rfl)]
     simp only [put_someT, setIfInBounds_toArray, set_cons_zero, set_cons_succ] at hK
     have HK := Lib.hid hK
     clear hK he hi hBW
     go_simp
     exact HK.out _ _ ⟨g93, l93, rfl, k1_93, k2_93, k3_93, k4_93⟩ (Below.refl _ _)
  ·intro vs W5 hall hBW
   obtain ⟨G, PL, eo, hPL, hrd, htr, hmap⟩ : PairsAt Ra Rb Rc x y z (vs 94) W5 := hall 94 (by decide)
   simp only [take_succ_cons, take_zero, List.drop_succ_cons, List.drop_zero, fillV, put_someT, put_noneC, setIfInBounds_toArray, set_cons_zero, set_cons_succ]
   rw [eo]
   generalize vs 0 = b0
   generalize vs 1 = b1
   generalize vs 2 = b2
   generalize vs 3 = b3
   generalize vs 4 = b4
   generalize vs 5 = b5
   generalize vs 6 = b6
   generalize vs 7 = b7
   generalize vs 8 = b8
   generalize vs 9 = b9
   generalize vs 10 = b10
   generalize vs 11 = b11
   generalize vs 12 = b12
   generalize vs 13 = b13
   generalize vs 14 = b14
   generalize vs 15 = b15
   generalize vs 16 = b16
   generalize vs 17 = b17
   generalize vs 18 = b18
   generalize vs 19 = b19
   generalize vs 20 = b20
   generalize vs 21 = b21
   generalize vs 22 = b22
   generalize vs 23 = b23
   generalize vs 24 = b24
   generalize vs 25 = b25
   generalize vs 26 = b26
   generalize vs 27 = b27
   generalize vs 28 = b28
   generalize vs 29 = b29
   generalize vs 30 = b30
   generalize vs 31 = b31
   generalize vs 32 = b32
   generalize vs 33 = b33
   generalize vs 34 = b34
   generalize vs 35 = b35
   generalize vs 36 = b36
   generalize vs 37 = b37
   generalize vs 38 = b38
   generalize vs 39 = b39
   generalize vs 40 = b40
   generalize vs 41 = b41
   generalize vs 42 = b42
   generalize vs 43 = b43
   generalize vs 44 = b44
   generalize vs 45 = b45
   generalize vs 46 = b46
   generalize vs 47 = b47
   generalize vs 48 = b48
   generalize vs 49 = b49
   generalize vs 50 = b50
   generalize vs 51 = b51
   generalize vs 52 = b52
   generalize vs 53 = b53
   generalize vs 54 = b54
   generalize vs 55 = b55
   generalize vs 56 = b56
   generalize vs 57 = b57
   generalize vs 58 = b58
   generalize vs 59 = b59
   generalize vs 60 = b60
   generalize vs 61 = b61
   generalize vs 62 = b62
   generalize vs 63 = b63
   generalize vs 64 = b64
   generalize vs 65 = b65
   generalize vs 66 = b66
   generalize vs 67 = b67
   generalize vs 68 = b68
   generalize vs 69 = b69
   generalize vs 70 = b70
   generalize vs 71 = b71
   generalize vs 72 = b72
   generalize vs 73 = b73
   generalize vs 74 = b74
   generalize vs 75 = b75
   generalize vs 76 = b76
   generalize vs 77 = b77
   generalize vs 78 = b78
   generalize vs 79 = b79
   generalize vs 80 = b80
   generalize vs 81 = b81
   generalize vs 82 = b82
   generalize vs 83 = b83
   generalize vs 84 = b84
   generalize vs 85 = b85
   generalize vs 86 = b86
   generalize vs 87 = b87
   generalize vs 88 = b88
   generalize vs 89 = b89
   generalize vs 90 = b90
   generalize vs 91 = b91
   generalize vs 92 = b92
   generalize vs 93 = b93
   have B35 := Lib.hid (B34.out.trans (hBW.mono B34.out.size))
   have B5 := Lib.hid (B6.out.trans (B35.out.mono B6.out.size))
   have XA8 := Lib.hid (XA7.out.then hBW)
   have XB8 := Lib.hid (XB7.out.then hBW)
   have XC8 := Lib.hid (XC7.out.then hBW)
   have MEM := Lib.hid (fun (k : Nat) (hk : k < PL.length) => show (PL[k].1.tree, PL[k].2) ∈ turnedL Ra.tree Rb.tree Rc.tree x y z by rw [← hmap]; exact List.mem_map.2 ⟨_, List.getElem_mem hk, rfl⟩)
   have HPL := Lib.hid hPL
   have HRD := Lib.hid hrd
   have HTR := Lib.hid htr
   clear hall hBW eo hPL hrd htr hmap XA7 XB7 XC7 B34
   go_wp2_with fail
   go_loopw [20] (fun iv wr => ∃ k : Nat, k ≤ 7 ∧ iv = .int .i64 (k : Int) ∧ Below W5.heap.size W5 wr) (fun iv _ => 7 - (intOf iv).toNat)
   case atStart => exact ⟨0, by omega, rfl, Below.refl _ _⟩
   case round =>
    obtain ⟨k, hk, rfl, hB⟩ := hrel
    rename World => wr
    have HB := Lib.hid hB
    have BR := Lib.hid (B35.out.trans (hB.mono B35.out.size))
    have XA9 := Lib.hid (XA8.out.then hB)
    have XB9 := Lib.hid (XB8.out.then hB)
    have XC9 := Lib.hid (XC8.out.then hB)
    by_cases hlt : k < 7
    ·have hkl : k < PL.length := by have := HPL.out; omega
     obtain ⟨b, oo, hA, hb, e0, e1, e2, e3, e4, e5, e6, e7⟩ := ((HRD.out.below hB).more hB.size).pair_at hkl
     obtain ⟨qr, hqr⟩ : ∃ q, PL[k].1 = q := ⟨_, rfl⟩
     obtain ⟨qb, hqb⟩ : ∃ q, PL[k].2 = q := ⟨_, rfl⟩
     have hmem := MEM.out k hkl
     rw [hqr, hqb] at hmem
     rw [hqr] at e0 e1 e2 e3 e4 e5 e6
     rw [hqb] at e7
     obtain ⟨hpq, hwq⟩ := TRN.out _ hmem
     have HT9 := Lib.hid (fun W (hb : Below wr.heap.size wr W) => show RTree W.heap.size W qr from ((hqr ▸ HTR.out _ (List.getElem_mem hkl)).keeps (hB.trans (hb.mono hB.size))).more (hB.trans (hb.mono hB.size)).size)
     have WH9 := Lib.hid (fun W (hb : Below wr.heap.size wr W) => WHO.out W (BR.out.trans (hb.mono BR.out.size)) qr (HT9.out W hb) hpq)
     have ST9 := Lib.hid (fun W (hb : Below wr.heap.size wr W) => SAT.out W (BR.out.trans (hb.mono BR.out.size)) qr (HT9.out W hb) hpq)
     have HWQ := Lib.hid hwq
     have DC := Lib.hid (fun W (hb : Below wr.heap.size wr W) => show W.cell? ⟨b, oo + k * 8, none⟩ = some (.int .u8 qr.kind) ∧ W.cell? ⟨b, oo + k * 8 + 1, none⟩ = some (.string (bs qr.dep.name)) ∧ W.cell? ⟨b, oo + k * 8 + 2, none⟩ = some (.int .u8 qr.dep.op) ∧ W.cell? ⟨b, oo + k * 8 + 3, none⟩ = some (.int .i64 qr.dep.evr.epoch) ∧ W.cell? ⟨b, oo + k * 8 + 4, none⟩ = some (.string (bs qr.dep.evr.ver)) ∧ W.cell? ⟨b, oo + k * 8 + 5, none⟩ = some (.string (bs qr.dep.evr.rel)) ∧ W.cell? ⟨b, oo + k * 8 + 6, none⟩ = some (.slice qr.addr qr.args.length qr.cap) ∧ W.cell? ⟨b, oo + k * 8 + 7, none⟩ = some (.bool qb) from ⟨(hb.cell (World.block_lt_of_cell? wr _ e0)).trans e0, (hb.cell (World.block_lt_of_cell? wr _ e1)).trans e1, (hb.cell (World.block_lt_of_cell? wr _ e2)).trans e2, (hb.cell (World.block_lt_of_cell? wr _ e3)).trans e3, (hb.cell (World.block_lt_of_cell? wr _ e4)).trans e4, (hb.cell (World.block_lt_of_cell? wr _ e5)).trans e5, (hb.cell (World.block_lt_of_cell? wr _ e6)).trans e6, (hb.cell (World.block_lt_of_cell? wr _ e7)).trans e7⟩)
     have I0 := Lib.hid (show (0 : Int) ≤ (k : Int) by omega)
     have I1 := Lib.hid (show (k : Int) < (7 : Int) by omega)
     subst hA
     unfold RV.val at WH9 ST9
     clear hb e0 e1 e2 e3 e4 e5 e6 e7 hmem hpq hwq hqr hqb hkl hB HT9
     obtain ⟨wh, hwh⟩ : ∃ wh, qr.tree.whole = wh := ⟨_, rfl⟩
     rw [hwh] at WH9
     have HWH := Lib.hid hwh
     clear hwh
     have i1 := I1.out
     cases wh
     ·go_wp2_with fail
      refine wp_region_tail (PP := tu11F T m sc b oo k SA qr qb) 22 rfl (by kernel_rfl) (by kernel_rfl) (by decide) (by decide) (tu11F_mono T m sc b oo k SA qr qb) (fun ii => match ii with | 0 => u160 | 1 => u161 | 2 => u162 | 3 => u163 | 4 => u164 | 5 => u165 | 6 => u166 | 7 => u167 | 8 => u168 | 9 => u169 | 10 => u170 | 11 => u171 | 12 => u172 | 13 => u173 | 14 => u174 | 15 => u175 | 16 => u176 | 17 => u177 | 18 => u178 | 19 => u179 | 20 => u180 | 21 => u181 | _ => undef) (by simp [fillV, put_someT, setIfInBounds_toArray, set_cons_zero, set_cons_succ]) ?_ ?_
      ·intro i o vs W hi ho he hBW K hK
       simp only [take_succ_cons, take_zero, fillV, put_someT, setIfInBounds_toArray, set_cons_zero, set_cons_succ] at hK ⊢
       have BW := Lib.hid hBW
       have DCW := Lib.hid (DC.out W hBW)
       obtain rfl | rfl | rfl | rfl | rfl | rfl | rfl | rfl | rfl | rfl | rfl | rfl | rfl | rfl | rfl | rfl | rfl | rfl | rfl | rfl | rfl | rfl := (show i = 0 ∨ i = 1 ∨ i = 2 ∨ i = 3 ∨ i = 4 ∨ i = 5 ∨ i = 6 ∨ i = 7 ∨ i = 8 ∨ i = 9 ∨ i = 10 ∨ i = 11 ∨ i = 12 ∨ i = 13 ∨ i = 14 ∨ i = 15 ∨ i = 16 ∨ i = 17 ∨ i = 18 ∨ i = 19 ∨ i = 20 ∨ i = 21 by exact (by have : i < 22 := hi; omega))
       ·simp only [getElem?_toArray, getElem?_cons_zero, getElem?_cons_succ, Option.some.injEq] at ho
        subst ho
        rw [if_pos (by rfl)]
        simp only [put_someT, setIfInBounds_toArray, set_cons_zero, set_cons_succ] at hK
        have HK := Lib.hid hK
        clear hK he hi hBW
        go_simp
        exact HK.out _ _ (by first | rfl | simp [tu11F]) (Below.refl _ _)
       ·simp only [getElem?_toArray, getElem?_cons_zero, getElem?_cons_succ, Option.some.injEq] at ho
        subst ho
        rw [if_pos (by rfl)]
        simp only [put_someT, setIfInBounds_toArray, set_cons_zero, set_cons_succ] at hK
        have HK := Lib.hid hK
        clear hK he hi hBW
        go_simp
        exact HK.out _ _ (by first | rfl | simp [tu11F]) (Below.refl _ _)
       ·simp only [getElem?_toArray, getElem?_cons_zero, getElem?_cons_succ, Option.some.injEq] at ho
        subst ho
        have e0 : vs 0 = _ := he ⟨0, .data⟩ (by simp) rfl
        rw [e0] at hK ⊢
        have e1 : vs 1 = _ := he ⟨1, .data⟩ (by simp) rfl
        rw [e1] at hK ⊢
        rw [if_pos (by rfl)]
        simp only [put_someT, setIfInBounds_toArray, set_cons_zero, set_cons_succ] at hK
        have HK := Lib.hid hK
        clear hK he hi hBW
        have i0 := I0.out
        have i1 := I1.out
        go_simp
        exact HK.out _ _ (by simp [tu11F]) (Below.refl _ _)
       ·simp only [getElem?_toArray, getElem?_cons_zero, getElem?_cons_succ, Option.some.injEq] at ho
        subst ho
        have e2 : vs 2 = _ := he ⟨2, .data⟩ (by simp) rfl
        rw [e2] at hK ⊢
        rw [if_pos (by rfl)]
        simp only [put_someT, setIfInBounds_toArray, set_cons_zero, set_cons_succ] at hK
        have HK := Lib.hid hK
        clear hK he hi hBW
        go_simp
        exact HK.out _ _ (by simp [tu11F]) (Below.refl _ _)
       ·simp only [getElem?_toArray, getElem?_cons_zero, getElem?_cons_succ, Option.some.injEq] at ho
        subst ho
        have e3 : vs 3 = _ := he ⟨3, .data⟩ (by simp) rfl
        rw [e3] at hK ⊢
        rw [if_pos (by rfl)]
        simp only [put_someT, setIfInBounds_toArray, set_cons_zero, set_cons_succ] at hK
        have HK := Lib.hid hK
        clear hK he hi hBW
        obtain ⟨d0, d1, d2, d3, d4, d5, d6, d7⟩ := DCW.out
        go_simp
        exact HK.out _ _ rfl (Below.refl _ _)
       ·simp only [getElem?_toArray, getElem?_cons_zero, getElem?_cons_succ, Option.some.injEq] at ho
        subst ho
        have e4 : vs 4 = _ := he ⟨4, .data⟩ (by simp) rfl
        rw [e4] at hK ⊢
        rw [if_pos (by rfl)]
        simp only [put_someT, setIfInBounds_toArray, set_cons_zero, set_cons_succ] at hK
        have HK := Lib.hid hK
        clear hK he hi hBW
        have CW := WH9.out W BW.out
        go_simp
        go_at_call 45
        refine CW.mono ?_
        rintro en w9 ⟨rfl, h⟩
        go_simp
        exact HK.out _ _ rfl h
       ·simp only [getElem?_toArray, getElem?_cons_zero, getElem?_cons_succ, Option.some.injEq] at ho
        subst ho
        have e5 : vs 5 = _ := he ⟨5, .data⟩ (by simp) rfl
        rw [e5] at hK ⊢
        rw [if_pos (by rfl)]
        simp only [put_someT, setIfInBounds_toArray, set_cons_zero, set_cons_succ] at hK
        have HK := Lib.hid hK
        clear hK he hi hBW
        go_simp
        exact HK.out _ _ (by first | rfl | simp [tu11F]) (Below.refl _ _)
       ·simp only [getElem?_toArray, getElem?_cons_zero, getElem?_cons_succ, Option.some.injEq] at ho
        subst ho
        have e6 : vs 6 = _ := he ⟨6, .guard⟩ (by simp) rfl
        rw [e6] at hK ⊢
        rw [if_neg (by exact Bool.false_ne_true)]
        exact hK _ _ rfl (Below.refl _ _)
       ·simp only [getElem?_toArray, getElem?_cons_zero, getElem?_cons_succ, Option.some.injEq] at ho
        subst ho
        have e6 : vs 6 = _ := he ⟨6, .guard⟩ (by simp) rfl
        rw [e6] at hK ⊢
        rw [if_neg (by exact Bool.false_ne_true)]
        exact hK _ _ rfl (Below.refl _ _)
       ·simp only [getElem?_toArray, getElem?_cons_zero, getElem?_cons_succ, Option.some.injEq] at ho
        subst ho
        have e6 : vs 6 = _ := he ⟨6, .guard⟩ (by simp) rfl
        rw [e6] at hK ⊢
        rw [if_neg (by exact Bool.false_ne_true)]
        exact hK _ _ rfl (Below.refl _ _)
       ·simp only [getElem?_toArray, getElem?_cons_zero, getElem?_cons_succ, Option.some.injEq] at ho
        subst ho
        have e6 : vs 6 = _ := he ⟨6, .guard⟩ (by simp) rfl
        rw [e6] at hK ⊢
        rw [if_neg (by exact Bool.false_ne_true)]
        exact hK _ _ rfl (Below.refl _ _)
       ·simp only [getElem?_toArray, getElem?_cons_zero, getElem?_cons_succ, Option.some.injEq] at ho
        subst ho
        have e9 : vs 9 = _ := he ⟨9, .data⟩ (by simp) rfl
        rw [e9] at hK ⊢
        have e10 : vs 10 = _ := he ⟨10, .data⟩ (by simp) rfl
        rw [e10] at hK ⊢
        have e6 : vs 6 = _ := he ⟨6, .guard⟩ (by simp) rfl
        rw [e6] at hK ⊢
        rw [if_neg (by exact Bool.false_ne_true)]
        exact hK _ _ rfl (Below.refl _ _)
       ·simp only [getElem?_toArray, getElem?_cons_zero, getElem?_cons_succ, Option.some.injEq] at ho
        subst ho
        have e11 : vs 11 = _ := he ⟨11, .data⟩ (by simp) rfl
        rw [e11] at hK ⊢
        have e6 : vs 6 = _ := he ⟨6, .guard⟩ (by simp) rfl
        rw [e6] at hK ⊢
        rw [if_neg (by exact Bool.false_ne_true)]
        exact hK _ _ rfl (Below.refl _ _)
       ·simp only [getElem?_toArray, getElem?_cons_zero, getElem?_cons_succ, Option.some.injEq] at ho
        subst ho
        have e12 : vs 12 = _ := he ⟨12, .data⟩ (by simp) rfl
        rw [e12] at hK ⊢
        have e6 : vs 6 = _ := he ⟨6, .guard⟩ (by simp) rfl
        rw [e6] at hK ⊢
        rw [if_neg (by exact Bool.false_ne_true)]
        exact hK _ _ rfl (Below.refl _ _)
       ·simp only [getElem?_toArray, getElem?_cons_zero, getElem?_cons_succ, Option.some.injEq] at ho
        subst ho
        have e7 : vs 7 = _ := he ⟨7, .data⟩ (by simp) rfl
        rw [e7] at hK ⊢
        have e8 : vs 8 = _ := he ⟨8, .data⟩ (by simp) rfl
        rw [e8] at hK ⊢
        have e13 : vs 13 = _ := he ⟨13, .data⟩ (by simp) rfl
        rw [e13] at hK ⊢
        have e6 : vs 6 = _ := he ⟨6, .guard⟩ (by simp) rfl
        rw [e6] at hK ⊢
        rw [if_neg (by exact Bool.false_ne_true)]
        exact hK _ _ rfl (Below.refl _ _)
       ·simp only [getElem?_toArray, getElem?_cons_zero, getElem?_cons_succ, Option.some.injEq] at ho
        subst ho
        have e6 : vs 6 = _ := he ⟨6, .guard⟩ (by simp) rfl
        rw [e6] at hK ⊢
        rw [if_neg (by exact Bool.false_ne_true)]
        exact hK _ _ rfl (Below.refl _ _)
       ·simp only [getElem?_toArray, getElem?_cons_zero, getElem?_cons_succ, Option.some.injEq] at ho
        subst ho
        have e6 : vs 6 = _ := he ⟨6, .guard⟩ (by simp) rfl
        rw [e6] at hK ⊢
        rw [if_neg (by exact Bool.false_ne_true)]
        exact hK _ _ rfl (Below.refl _ _)
       ·simp only [getElem?_toArray, getElem?_cons_zero, getElem?_cons_succ, Option.some.injEq] at ho
        subst ho
        have e15 : vs 15 = _ := he ⟨15, .data⟩ (by simp) rfl
        rw [e15] at hK ⊢
        have e16 : vs 16 = _ := he ⟨16, .data⟩ (by simp) rfl
        rw [e16] at hK ⊢
        have e6 : vs 6 = _ := he ⟨6, .guard⟩ (by simp) rfl
        rw [e6] at hK ⊢
        rw [if_neg (by exact Bool.false_ne_true)]
        exact hK _ _ rfl (Below.refl _ _)
       ·simp only [getElem?_toArray, getElem?_cons_zero, getElem?_cons_succ, Option.some.injEq] at ho
        subst ho
        have e17 : vs 17 = _ := he ⟨17, .data⟩ (by simp) rfl
        rw [e17] at hK ⊢
        have e6 : vs 6 = _ := he ⟨6, .guard⟩ (by simp) rfl
        rw [e6] at hK ⊢
        rw [if_neg (by exact Bool.false_ne_true)]
        exact hK _ _ rfl (Below.refl _ _)
       ·simp only [getElem?_toArray, getElem?_cons_zero, getElem?_cons_succ, Option.some.injEq] at ho
        subst ho
        have e18 : vs 18 = _ := he ⟨18, .data⟩ (by simp) rfl
        rw [e18] at hK ⊢
        have e6 : vs 6 = _ := he ⟨6, .guard⟩ (by simp) rfl
        rw [e6] at hK ⊢
        rw [if_neg (by exact Bool.false_ne_true)]
        exact hK _ _ rfl (Below.refl _ _)
       ·simp only [getElem?_toArray, getElem?_cons_zero, getElem?_cons_succ, Option.some.injEq] at ho
        subst ho
        have e14 : vs 14 = _ := he ⟨14, .data⟩ (by simp) rfl
        rw [e14] at hK ⊢
        have e19 : vs 19 = _ := he ⟨19, .data⟩ (by simp) rfl
        rw [e19] at hK ⊢
        have e6 : vs 6 = _ := he ⟨6, .guard⟩ (by simp) rfl
        rw [e6] at hK ⊢
        rw [if_neg (by exact Bool.false_ne_true)]
        exact hK _ _ rfl (Below.refl _ _)
       ·simp only [getElem?_toArray, getElem?_cons_zero, getElem?_cons_succ, Option.some.injEq] at ho
        subst ho
        have e6 : vs 6 = _ := he ⟨6, .data⟩ (by simp) rfl
        rw [e6] at hK ⊢
        have e20 : vs 20 = _ := he ⟨20, .data⟩ (by simp) rfl
        rw [e20] at hK ⊢
        rw [if_pos (by rfl)]
        simp only [put_someT, setIfInBounds_toArray, set_cons_zero, set_cons_succ] at hK
        have HK := Lib.hid hK
        clear hK he hi hBW
        go_simp
        exact HK.out _ _ (by simp [tu11F]) (Below.refl _ _)
      ·intro vs W9 hall hBW
       have eo : vs 21 = .bool false := hall 21 (by decide)
       simp only [take_succ_cons, take_zero, List.drop_succ_cons, List.drop_zero, fillV, put_someT, put_noneC, setIfInBounds_toArray, set_cons_zero, set_cons_succ]
       rw [eo]
       generalize vs 0 = q0
       generalize vs 1 = q1
       generalize vs 2 = q2
       generalize vs 3 = q3
       generalize vs 4 = q4
       generalize vs 5 = q5
       generalize vs 6 = q6
       generalize vs 7 = q7
       generalize vs 8 = q8
       generalize vs 9 = q9
       generalize vs 10 = q10
       generalize vs 11 = q11
       generalize vs 12 = q12
       generalize vs 13 = q13
       generalize vs 14 = q14
       generalize vs 15 = q15
       generalize vs 16 = q16
       generalize vs 17 = q17
       generalize vs 18 = q18
       generalize vs 19 = q19
       generalize vs 20 = q20
       have B9 := Lib.hid (HB.out.trans (hBW.mono HB.out.size))
       clear hall hBW eo
       go_wp2_with fail
       go_roundw
       case rel => exact ⟨k + 1, by omega, by go_num, B9.out⟩
       case measure => simp [intOf]; omega
     ·have hsq := HWQ.out HWH.out
      rw [hsq] at ST9
      clear hsq
      go_wp2_with fail
      refine wp_region_tail (PP := tu11T T m sc b oo k SA qr qb) 22 rfl (by kernel_rfl) (by kernel_rfl) (by decide) (by decide) (tu11T_mono T m sc b oo k SA qr qb) (fun ii => match ii with | 0 => u160 | 1 => u161 | 2 => u162 | 3 => u163 | 4 => u164 | 5 => u165 | 6 => u166 | 7 => u167 | 8 => u168 | 9 => u169 | 10 => u170 | 11 => u171 | 12 => u172 | 13 => u173 | 14 => u174 | 15 => u175 | 16 => u176 | 17 => u177 | 18 => u178 | 19 => u179 | 20 => u180 | 21 => u181 | _ => undef) (by simp [fillV, put_someT, setIfInBounds_toArray, set_cons_zero, set_cons_succ]) ?_ ?_
      ·intro i o vs W hi ho he hBW K hK
       simp only [take_succ_cons, take_zero, fillV, put_someT, setIfInBounds_toArray, set_cons_zero, set_cons_succ] at hK ⊢
       have BW := Lib.hid hBW
       have DCW := Lib.hid (DC.out W hBW)
       obtain rfl | rfl | rfl | rfl | rfl | rfl | rfl | rfl | rfl | rfl | rfl | rfl | rfl | rfl | rfl | rfl | rfl | rfl | rfl | rfl | rfl | rfl := (show i = 0 ∨ i = 1 ∨ i = 2 ∨ i = 3 ∨ i = 4 ∨ i = 5 ∨ i = 6 ∨ i = 7 ∨ i = 8 ∨ i = 9 ∨ i = 10 ∨ i = 11 ∨ i = 12 ∨ i = 13 ∨ i = 14 ∨ i = 15 ∨ i = 16 ∨ i = 17 ∨ i = 18 ∨ i = 19 ∨ i = 20 ∨ i = 21 by exact (by have : i < 22 := hi; omega))
       ·simp only [getElem?_toArray, getElem?_cons_zero, getElem?_cons_succ, Option.some.injEq] at ho
        subst ho
        rw [if_pos (by rfl)]
        simp only [put_someT, setIfInBounds_toArray, set_cons_zero, set_cons_succ] at hK
        have HK := Lib.hid hK
        clear hK he hi hBW
        go_simp
        exact HK.out _ _ (by first | rfl | simp [tu11T]) (Below.refl _ _)
       ·simp only [getElem?_toArray, getElem?_cons_zero, getElem?_cons_succ, Option.some.injEq] at ho
        subst ho
        rw [if_pos (by rfl)]
        simp only [put_someT, setIfInBounds_toArray, set_cons_zero, set_cons_succ] at hK
        have HK := Lib.hid hK
        clear hK he hi hBW
        go_simp
        exact HK.out _ _ (by first | rfl | simp [tu11T]) (Below.refl _ _)
       ·simp only [getElem?_toArray, getElem?_cons_zero, getElem?_cons_succ, Option.some.injEq] at ho
        subst ho
        have e0 : vs 0 = _ := he ⟨0, .data⟩ (by simp) rfl
        rw [e0] at hK ⊢
        have e1 : vs 1 = _ := he ⟨1, .data⟩ (by simp) rfl
        rw [e1] at hK ⊢
        rw [if_pos (by rfl)]
        simp only [put_someT, setIfInBounds_toArray, set_cons_zero, set_cons_succ] at hK
        have HK := Lib.hid hK
        clear hK he hi hBW
        have i0 := I0.out
        have i1 := I1.out
        go_simp
        exact HK.out _ _ (by simp [tu11T]) (Below.refl _ _)
       ·simp only [getElem?_toArray, getElem?_cons_zero, getElem?_cons_succ, Option.some.injEq] at ho
        subst ho
        have e2 : vs 2 = _ := he ⟨2, .data⟩ (by simp) rfl
        rw [e2] at hK ⊢
        rw [if_pos (by rfl)]
        simp only [put_someT, setIfInBounds_toArray, set_cons_zero, set_cons_succ] at hK
        have HK := Lib.hid hK
        clear hK he hi hBW
        go_simp
        exact HK.out _ _ (by simp [tu11T]) (Below.refl _ _)
       ·simp only [getElem?_toArray, getElem?_cons_zero, getElem?_cons_succ, Option.some.injEq] at ho
        subst ho
        have e3 : vs 3 = _ := he ⟨3, .data⟩ (by simp) rfl
        rw [e3] at hK ⊢
        rw [if_pos (by rfl)]
        simp only [put_someT, setIfInBounds_toArray, set_cons_zero, set_cons_succ] at hK
        have HK := Lib.hid hK
        clear hK he hi hBW
        obtain ⟨d0, d1, d2, d3, d4, d5, d6, d7⟩ := DCW.out
        go_simp
        exact HK.out _ _ rfl (Below.refl _ _)
       ·simp only [getElem?_toArray, getElem?_cons_zero, getElem?_cons_succ, Option.some.injEq] at ho
        subst ho
        have e4 : vs 4 = _ := he ⟨4, .data⟩ (by simp) rfl
        rw [e4] at hK ⊢
        rw [if_pos (by rfl)]
        simp only [put_someT, setIfInBounds_toArray, set_cons_zero, set_cons_succ] at hK
        have HK := Lib.hid hK
        clear hK he hi hBW
        have CW := WH9.out W BW.out
        go_simp
        go_at_call 45
        refine CW.mono ?_
        rintro en w9 ⟨rfl, h⟩
        go_simp
        exact HK.out _ _ rfl h
       ·simp only [getElem?_toArray, getElem?_cons_zero, getElem?_cons_succ, Option.some.injEq] at ho
        subst ho
        have e5 : vs 5 = _ := he ⟨5, .data⟩ (by simp) rfl
        rw [e5] at hK ⊢
        rw [if_pos (by rfl)]
        simp only [put_someT, setIfInBounds_toArray, set_cons_zero, set_cons_succ] at hK
        have HK := Lib.hid hK
        clear hK he hi hBW
        go_simp
        exact HK.out _ _ (by first | rfl | simp [tu11T]) (Below.refl _ _)
       ·simp only [getElem?_toArray, getElem?_cons_zero, getElem?_cons_succ, Option.some.injEq] at ho
        subst ho
        have e6 : vs 6 = _ := he ⟨6, .guard⟩ (by simp) rfl
        rw [e6] at hK ⊢
        rw [if_pos (by rfl)]
        simp only [put_someT, setIfInBounds_toArray, set_cons_zero, set_cons_succ] at hK
        have HK := Lib.hid hK
        clear hK he hi hBW
        go_simp
        exact HK.out _ _ (by first | rfl | simp [tu11T]) (Below.refl _ _)
       ·simp only [getElem?_toArray, getElem?_cons_zero, getElem?_cons_succ, Option.some.injEq] at ho
        subst ho
        have e6 : vs 6 = _ := he ⟨6, .guard⟩ (by simp) rfl
        rw [e6] at hK ⊢
        rw [if_pos (by rfl)]
        simp only [put_someT, setIfInBounds_toArray, set_cons_zero, set_cons_succ] at hK
        have HK := Lib.hid hK
        clear hK he hi hBW
        go_simp
        exact HK.out _ _ (by first | rfl | simp [tu11T]) (Below.refl _ _)
       ·simp only [getElem?_toArray, getElem?_cons_zero, getElem?_cons_succ, Option.some.injEq] at ho
        subst ho
        have e6 : vs 6 = _ := he ⟨6, .guard⟩ (by simp) rfl
        rw [e6] at hK ⊢
        rw [if_pos (by rfl)]
        simp only [put_someT, setIfInBounds_toArray, set_cons_zero, set_cons_succ] at hK
        have HK := Lib.hid hK
        clear hK he hi hBW
        go_simp
        exact HK.out _ _ (by first | rfl | simp [tu11T]) (Below.refl _ _)
       ·simp only [getElem?_toArray, getElem?_cons_zero, getElem?_cons_succ, Option.some.injEq] at ho
        subst ho
        have e6 : vs 6 = _ := he ⟨6, .guard⟩ (by simp) rfl
        rw [e6] at hK ⊢
        rw [if_pos (by rfl)]
        simp only [put_someT, setIfInBounds_toArray, set_cons_zero, set_cons_succ] at hK
        have HK := Lib.hid hK
        clear hK he hi hBW
        go_simp
        exact HK.out _ _ (by first | rfl | simp [tu11T]) (Below.refl _ _)
       ·simp only [getElem?_toArray, getElem?_cons_zero, getElem?_cons_succ, Option.some.injEq] at ho
        subst ho
        have e9 : vs 9 = _ := he ⟨9, .data⟩ (by simp) rfl
        rw [e9] at hK ⊢
        have e10 : vs 10 = _ := he ⟨10, .data⟩ (by simp) rfl
        rw [e10] at hK ⊢
        have e6 : vs 6 = _ := he ⟨6, .guard⟩ (by simp) rfl
        rw [e6] at hK ⊢
        rw [if_pos (by rfl)]
        simp only [put_someT, setIfInBounds_toArray, set_cons_zero, set_cons_succ] at hK
        have HK := Lib.hid hK
        clear hK he hi hBW
        have i0 := I0.out
        have i1 := I1.out
        go_simp
        exact HK.out _ _ (by simp [tu11T]) (Below.refl _ _)
       ·simp only [getElem?_toArray, getElem?_cons_zero, getElem?_cons_succ, Option.some.injEq] at ho
        subst ho
        have e11 : vs 11 = _ := he ⟨11, .data⟩ (by simp) rfl
        rw [e11] at hK ⊢
        have e6 : vs 6 = _ := he ⟨6, .guard⟩ (by simp) rfl
        rw [e6] at hK ⊢
        rw [if_pos (by rfl)]
        simp only [put_someT, setIfInBounds_toArray, set_cons_zero, set_cons_succ] at hK
        have HK := Lib.hid hK
        clear hK he hi hBW
        go_simp
        exact HK.out _ _ (by simp [tu11T]) (Below.refl _ _)
       ·simp only [getElem?_toArray, getElem?_cons_zero, getElem?_cons_succ, Option.some.injEq] at ho
        subst ho
        have e12 : vs 12 = _ := he ⟨12, .data⟩ (by simp) rfl
        rw [e12] at hK ⊢
        have e6 : vs 6 = _ := he ⟨6, .guard⟩ (by simp) rfl
        rw [e6] at hK ⊢
        rw [if_pos (by rfl)]
        simp only [put_someT, setIfInBounds_toArray, set_cons_zero, set_cons_succ] at hK
        have HK := Lib.hid hK
        clear hK he hi hBW
        obtain ⟨d0, d1, d2, d3, d4, d5, d6, d7⟩ := DCW.out
        go_simp
        exact HK.out _ _ rfl (Below.refl _ _)
       ·simp only [getElem?_toArray, getElem?_cons_zero, getElem?_cons_succ, Option.some.injEq] at ho
        subst ho
        have e7 : vs 7 = _ := he ⟨7, .data⟩ (by simp) rfl
        rw [e7] at hK ⊢
        have e8 : vs 8 = _ := he ⟨8, .data⟩ (by simp) rfl
        rw [e8] at hK ⊢
        have e13 : vs 13 = _ := he ⟨13, .data⟩ (by simp) rfl
        rw [e13] at hK ⊢
        have e6 : vs 6 = _ := he ⟨6, .guard⟩ (by simp) rfl
        rw [e6] at hK ⊢
        rw [if_pos (by rfl)]
        simp only [put_someT, setIfInBounds_toArray, set_cons_zero, set_cons_succ] at hK
        have HK := Lib.hid hK
        clear hK he hi hBW
        have CW := ST9.out W BW.out
        go_simp
        go_at_call 40
        refine CW.mono ?_
        rintro en w9 ⟨rfl, h⟩
        go_simp
        exact HK.out _ _ rfl h
       ·simp only [getElem?_toArray, getElem?_cons_zero, getElem?_cons_succ, Option.some.injEq] at ho
        subst ho
        have e6 : vs 6 = _ := he ⟨6, .guard⟩ (by simp) rfl
        rw [e6] at hK ⊢
        rw [if_pos (by rfl)]
        simp only [put_someT, setIfInBounds_toArray, set_cons_zero, set_cons_succ] at hK
        have HK := Lib.hid hK
        clear hK he hi hBW
        go_simp
        exact HK.out _ _ (by first | rfl | simp [tu11T]) (Below.refl _ _)
       ·simp only [getElem?_toArray, getElem?_cons_zero, getElem?_cons_succ, Option.some.injEq] at ho
        subst ho
        have e6 : vs 6 = _ := he ⟨6, .guard⟩ (by simp) rfl
        rw [e6] at hK ⊢
        rw [if_pos (by rfl)]
        simp only [put_someT, setIfInBounds_toArray, set_cons_zero, set_cons_succ] at hK
        have HK := Lib.hid hK
        clear hK he hi hBW
        go_simp
        exact HK.out _ _ (by first | rfl | simp [tu11T]) (Below.refl _ _)
       ·simp only [getElem?_toArray, getElem?_cons_zero, getElem?_cons_succ, Option.some.injEq] at ho
        subst ho
        have e15 : vs 15 = _ := he ⟨15, .data⟩ (by simp) rfl
        rw [e15] at hK ⊢
        have e16 : vs 16 = _ := he ⟨16, .data⟩ (by simp) rfl
        rw [e16] at hK ⊢
        have e6 : vs 6 = _ := he ⟨6, .guard⟩ (by simp) rfl
        rw [e6] at hK ⊢
        rw [if_pos (by rfl)]
        simp only [put_someT, setIfInBounds_toArray, set_cons_zero, set_cons_succ] at hK
        have HK := Lib.hid hK
        clear hK he hi hBW
        have i0 := I0.out
        have i1 := I1.out
        go_simp
        exact HK.out _ _ (by simp [tu11T]) (Below.refl _ _)
       ·simp only [getElem?_toArray, getElem?_cons_zero, getElem?_cons_succ, Option.some.injEq] at ho
        subst ho
        have e17 : vs 17 = _ := he ⟨17, .data⟩ (by simp) rfl
        rw [e17] at hK ⊢
        have e6 : vs 6 = _ := he ⟨6, .guard⟩ (by simp) rfl
        rw [e6] at hK ⊢
        rw [if_pos (by rfl)]
        simp only [put_someT, setIfInBounds_toArray, set_cons_zero, set_cons_succ] at hK
        have HK := Lib.hid hK
        clear hK he hi hBW
        go_simp
        exact HK.out _ _ (by simp [tu11T]) (Below.refl _ _)
       ·simp only [getElem?_toArray, getElem?_cons_zero, getElem?_cons_succ, Option.some.injEq] at ho
        subst ho
        have e18 : vs 18 = _ := he ⟨18, .data⟩ (by simp) rfl
        rw [e18] at hK ⊢
        have e6 : vs 6 = _ := he ⟨6, .guard⟩ (by simp) rfl
        rw [e6] at hK ⊢
        rw [if_pos (by rfl)]
        simp only [put_someT, setIfInBounds_toArray, set_cons_zero, set_cons_succ] at hK
        have HK := Lib.hid hK
        clear hK he hi hBW
        obtain ⟨d0, d1, d2, d3, d4, d5, d6, d7⟩ := DCW.out
        go_simp
        exact HK.out _ _ rfl (Below.refl _ _)
       ·simp only [getElem?_toArray, getElem?_cons_zero, getElem?_cons_succ, Option.some.injEq] at ho
        subst ho
        have e14 : vs 14 = _ := he ⟨14, .data⟩ (by simp) rfl
        rw [e14] at hK ⊢
        have e19 : vs 19 = _ := he ⟨19, .data⟩ (by simp) rfl
        rw [e19] at hK ⊢
        have e6 : vs 6 = _ := he ⟨6, .guard⟩ (by simp) rfl
        rw [e6] at hK ⊢
        rw [if_pos (by rfl)]
        simp only [put_someT, setIfInBounds_toArray, set_cons_zero, set_cons_succ] at hK
        have HK := Lib.hid hK
        clear hK he hi hBW
        go_simp
        exact HK.out _ _ (by simp [tu11T]) (Below.refl _ _)
       ·simp only [getElem?_toArray, getElem?_cons_zero, getElem?_cons_succ, Option.some.injEq] at ho
        subst ho
        have e6 : vs 6 = _ := he ⟨6, .data⟩ (by simp) rfl
        rw [e6] at hK ⊢
        have e20 : vs 20 = _ := he ⟨20, .data⟩ (by simp) rfl
        rw [e20] at hK ⊢
        rw [if_pos (by rfl)]
        simp only [put_someT, setIfInBounds_toArray, set_cons_zero, set_cons_succ] at hK
        have HK := Lib.hid hK
        clear hK he hi hBW
        go_simp
        exact HK.out _ _ (by simp [tu11T]) (Below.refl _ _)
      ·intro vs W9 hall hBW
       have eo : vs 21 = .bool false := hall 21 (by decide)
       simp only [take_succ_cons, take_zero, List.drop_succ_cons, List.drop_zero, fillV, put_someT, put_noneC, setIfInBounds_toArray, set_cons_zero, set_cons_succ]
       rw [eo]
       generalize vs 0 = q0
       generalize vs 1 = q1
       generalize vs 2 = q2
       generalize vs 3 = q3
       generalize vs 4 = q4
       generalize vs 5 = q5
       generalize vs 6 = q6
       generalize vs 7 = q7
       generalize vs 8 = q8
       generalize vs 9 = q9
       generalize vs 10 = q10
       generalize vs 11 = q11
       generalize vs 12 = q12
       generalize vs 13 = q13
       generalize vs 14 = q14
       generalize vs 15 = q15
       generalize vs 16 = q16
       generalize vs 17 = q17
       generalize vs 18 = q18
       generalize vs 19 = q19
       generalize vs 20 = q20
       have B9 := Lib.hid (HB.out.trans (hBW.mono HB.out.size))
       clear hall hBW eo
       go_wp2_with fail
       go_roundw
       case rel => exact ⟨k + 1, by omega, by go_num, B9.out⟩
       case measure => simp [intOf]; omega
    ·obtain rfl : k = 7 := by omega
     have i1 : ¬ ((7 : Nat) : Int) < (7 : Int) := by omega
     obtain ⟨q, hq⟩ : ∃ q, Tr.satS N (pvL L2) S (.mk 6 zeroT [Ra.tree, Rb.tree, Rc.tree]) = q := ⟨_, rfl⟩
     have TQ := Lib.hid (TRW.out.trans hq)
     have HQ := Lib.hid hq
     clear hq
     have B9R := Lib.hid (B6.out.trans (BR.out.mono B6.out.size))
     have SW1 := Lib.hid (fun (g : Nat) W (hb : Below w3.heap.size w3 W) (hR : RTree W.heap.size W (.node 6 zeroT (some ⟨g, 0, none⟩) 3 [Ra, Rb, Rc])) => show Calls Tryz.prog 40 #[.pointer (some ⟨T, 0, none⟩), .slice SA m sc, .agg #[.int .u8 6, .string ⟨#[]⟩, .int .u8 0, .int .i64 0, .string ⟨#[]⟩, .string ⟨#[]⟩, .slice (some ⟨g, 0, none⟩) 3 3]] W fun e w' => e = .returned (.bool q) ∧ Below W.heap.size W w' from by
      have h := SAT.out W hb _ hR PA3.out.1
      rw [show (RV.node 6 zeroT (some ⟨g, 0, none⟩) 3 [Ra, Rb, Rc]).tree = RT.mk 6 zeroT [Ra.tree, Rb.tree, Rc.tree] from rfl, HQ.out] at h
      exact h)
     have SW2 := Lib.hid (fun (g : Nat) W (hb : Below w3.heap.size w3 W) (hR : RTree W.heap.size W (.node 6 zeroT (some ⟨g, 0, none⟩) 3 [Rc, Rb, Ra])) => show Calls Tryz.prog 40 #[.pointer (some ⟨T, 0, none⟩), .slice SA m sc, .agg #[.int .u8 6, .string ⟨#[]⟩, .int .u8 0, .int .i64 0, .string ⟨#[]⟩, .string ⟨#[]⟩, .slice (some ⟨g, 0, none⟩) 3 3]] W fun e w' => e = .returned (.bool q) ∧ Below W.heap.size W w' from by
      have h := SAT.out W hb _ hR PA3.out.2
      rw [show (RV.node 6 zeroT (some ⟨g, 0, none⟩) 3 [Rc, Rb, Ra]).tree = RT.mk 6 zeroT [Rc.tree, Rb.tree, Ra.tree] from rfl, TQ.out] at h
      exact h)
     have BR3 := Lib.hid BR.out
     clear TQ HQ TRN TRW PA3 SAT WHO HB hlt
     go_wp2_with fail
     refine wp_region_tail (PP := tu13 T m sc SA Ra Rb Rc q) 18 rfl (by kernel_rfl) (by kernel_rfl) (by decide) (by decide) (tu13_mono T m sc SA Ra Rb Rc q) (fun ii => match ii with | 17 => u12 | _ => undef) (by simp [fillV, put_someT, setIfInBounds_toArray, set_cons_zero, set_cons_succ]) ?_ ?_
     ·intro i o vs W hi ho he hBW K hK
      simp only [take_succ_cons, take_zero, fillV, put_someT, setIfInBounds_toArray, set_cons_zero, set_cons_succ] at hK ⊢
      have BW := Lib.hid hBW
      have XAW := Lib.hid (XA9.out.then hBW)
      have XBW := Lib.hid (XB9.out.then hBW)
      have XCW := Lib.hid (XC9.out.then hBW)
      obtain rfl | rfl | rfl | rfl | rfl | rfl | rfl | rfl | rfl | rfl | rfl | rfl | rfl | rfl | rfl | rfl | rfl | rfl := (show i = 0 ∨ i = 1 ∨ i = 2 ∨ i = 3 ∨ i = 4 ∨ i = 5 ∨ i = 6 ∨ i = 7 ∨ i = 8 ∨ i = 9 ∨ i = 10 ∨ i = 11 ∨ i = 12 ∨ i = 13 ∨ i = 14 ∨ i = 15 ∨ i = 16 ∨ i = 17 by exact (by have : i < 18 := hi; omega))
      ·simp only [getElem?_toArray, getElem?_cons_zero, getElem?_cons_succ, Option.some.injEq] at ho
       subst ho
       rw [if_pos (by rfl)]
       simp only [put_someT, setIfInBounds_toArray, set_cons_zero, set_cons_succ] at hK
       have HK := Lib.hid hK
       clear hK he hi hBW
       go_simp
       exact HK.out _ _ (by first | rfl | simp [tu13]) (Below.refl _ _)
      ·simp only [getElem?_toArray, getElem?_cons_zero, getElem?_cons_succ, Option.some.injEq] at ho
       subst ho
       rw [if_pos (by rfl)]
       simp only [put_someT, setIfInBounds_toArray, set_cons_zero, set_cons_succ] at hK
       have HK := Lib.hid hK
       clear hK he hi hBW
       go_simp
       exact HK.out _ _ (by first | rfl | simp [tu13]) (Below.refl _ _)
      ·simp only [getElem?_toArray, getElem?_cons_zero, getElem?_cons_succ, Option.some.injEq] at ho
       subst ho
       rw [if_pos (by rfl)]
       simp only [put_someT, setIfInBounds_toArray, set_cons_zero, set_cons_succ] at hK
       have HK := Lib.hid hK
       clear hK he hi hBW
       obtain ⟨_, c0, c1, c2, c3, c4, c5, c6⟩ := XAW.out
       go_simp
       exact HK.out _ _ rfl (Below.refl _ _)
      ·simp only [getElem?_toArray, getElem?_cons_zero, getElem?_cons_succ, Option.some.injEq] at ho
       subst ho
       rw [if_pos (by rfl)]
       simp only [put_someT, setIfInBounds_toArray, set_cons_zero, set_cons_succ] at hK
       have HK := Lib.hid hK
       clear hK he hi hBW
       obtain ⟨_, c0, c1, c2, c3, c4, c5, c6⟩ := XBW.out
       go_simp
       exact HK.out _ _ rfl (Below.refl _ _)
      ·simp only [getElem?_toArray, getElem?_cons_zero, getElem?_cons_succ, Option.some.injEq] at ho
       subst ho
       rw [if_pos (by rfl)]
       simp only [put_someT, setIfInBounds_toArray, set_cons_zero, set_cons_succ] at hK
       have HK := Lib.hid hK
       clear hK he hi hBW
       obtain ⟨_, c0, c1, c2, c3, c4, c5, c6⟩ := XCW.out
       go_simp
       exact HK.out _ _ rfl (Below.refl _ _)
      ·simp only [getElem?_toArray, getElem?_cons_zero, getElem?_cons_succ, Option.some.injEq] at ho
       subst ho
       have e2 : vs 2 = _ := he ⟨2, .data⟩ (by simp) rfl
       rw [e2] at hK ⊢
       have e3 : vs 3 = _ := he ⟨3, .data⟩ (by simp) rfl
       rw [e3] at hK ⊢
       have e4 : vs 4 = _ := he ⟨4, .data⟩ (by simp) rfl
       rw [e4] at hK ⊢
       rw [if_pos (by rfl)]
       simp only [put_someT, setIfInBounds_toArray, set_cons_zero, set_cons_succ] at hK
       have HK := Lib.hid hK
       clear hK he hi hBW
       go_simp
       exact HK.out _ _ (ArgsAt.made (l := [Ra, Rb, Rc]) rfl (by simp) (all3T (TR3.out W (BR3.out.trans (BW.out.mono BR3.out.size))).1 (TR3.out W (BR3.out.trans (BW.out.mono BR3.out.size))).2.1 (TR3.out W (BR3.out.trans (BW.out.mono BR3.out.size))).2.2)) ((Below.refl _ _).alloc (Nat.le_refl _) _)
      ·simp only [getElem?_toArray, getElem?_cons_zero, getElem?_cons_succ, Option.some.injEq] at ho
       subst ho
       obtain ⟨g9, e9, t9⟩ := he ⟨5, .data⟩ (by simp) rfl
       simp only [List.length_cons, List.length_nil, Nat.reduceAdd, Nat.zero_add] at e9
       rw [e9] at hK ⊢
       rw [if_pos (by rfl)]
       simp only [put_someT, setIfInBounds_toArray, set_cons_zero, set_cons_succ] at hK
       have HK := Lib.hid hK
       clear hK he hi hBW
       go_simp
       go_at_call 44
       refine (of14_any _ _ _ _ _).mono ?_
       rintro en w9 ⟨rfl, h⟩
       go_simp
       exact HK.out _ _ ⟨g9, rfl, ((t9 _).keeps h).more h.size⟩ h
      ·simp only [getElem?_toArray, getElem?_cons_zero, getElem?_cons_succ, Option.some.injEq] at ho
       subst ho
       have e0 : vs 0 = _ := he ⟨0, .data⟩ (by simp) rfl
       rw [e0] at hK ⊢
       have e1 : vs 1 = _ := he ⟨1, .data⟩ (by simp) rfl
       rw [e1] at hK ⊢
       obtain ⟨g9, e9, t9⟩ := he ⟨6, .data⟩ (by simp) rfl
       simp only [List.length_cons, List.length_nil, Nat.reduceAdd, Nat.zero_add] at e9
       rw [e9] at hK ⊢
       rw [if_pos (by rfl)]
       simp only [put_someT, setIfInBounds_toArray, set_cons_zero, set_cons_succ] at hK
       have HK := Lib.hid hK
       clear hK he hi hBW
       have CW := SW1.out g9 W (BR3.out.trans (BW.out.mono BR3.out.size)) t9
       go_simp
       go_at_call 40
       refine CW.mono ?_
       rintro en w9 ⟨rfl, h⟩
       go_simp
       exact HK.out _ _ rfl h
      ·simp only [getElem?_toArray, getElem?_cons_zero, getElem?_cons_succ, Option.some.injEq] at ho
       subst ho
       rw [if_pos (by rfl)]
       simp only [put_someT, setIfInBounds_toArray, set_cons_zero, set_cons_succ] at hK
       have HK := Lib.hid hK
       clear hK he hi hBW
       go_simp
       exact HK.out _ _ (by first | rfl | simp [tu13]) (Below.refl _ _)
      ·simp only [getElem?_toArray, getElem?_cons_zero, getElem?_cons_succ, Option.some.injEq] at ho
       subst ho
       rw [if_pos (by rfl)]
       simp only [put_someT, setIfInBounds_toArray, set_cons_zero, set_cons_succ] at hK
       have HK := Lib.hid hK
       clear hK he hi hBW
       go_simp
       exact HK.out _ _ (by first | rfl | simp [tu13]) (Below.refl _ _)
      ·simp only [getElem?_toArray, getElem?_cons_zero, getElem?_cons_succ, Option.some.injEq] at ho
       subst ho
       rw [if_pos (by rfl)]
       simp only [put_someT, setIfInBounds_toArray, set_cons_zero, set_cons_succ] at hK
       have HK := Lib.hid hK
       clear hK he hi hBW
       obtain ⟨_, c0, c1, c2, c3, c4, c5, c6⟩ := XCW.out
       go_simp
       exact HK.out _ _ rfl (Below.refl _ _)
      ·simp only [getElem?_toArray, getElem?_cons_zero, getElem?_cons_succ, Option.some.injEq] at ho
       subst ho
       rw [if_pos (by rfl)]
       simp only [put_someT, setIfInBounds_toArray, set_cons_zero, set_cons_succ] at hK
       have HK := Lib.hid hK
       clear hK he hi hBW
       obtain ⟨_, c0, c1, c2, c3, c4, c5, c6⟩ := XBW.out
       go_simp
       exact HK.out _ _ rfl (Below.refl _ _)
      ·simp only [getElem?_toArray, getElem?_cons_zero, getElem?_cons_succ, Option.some.injEq] at ho
       subst ho
       rw [if_pos (by rfl)]
       simp only [put_someT, setIfInBounds_toArray, set_cons_zero, set_cons_succ] at hK
       have HK := Lib.hid hK
       clear hK he hi hBW
       obtain ⟨_, c0, c1, c2, c3, c4, c5, c6⟩ := XAW.out
       go_simp
       exact HK.out _ _ rfl (Below.refl _ _)
      ·simp only [getElem?_toArray, getElem?_cons_zero, getElem?_cons_succ, Option.some.injEq] at ho
       subst ho
       have e10 : vs 10 = _ := he ⟨10, .data⟩ (by simp) rfl
       rw [e10] at hK ⊢
       have e11 : vs 11 = _ := he ⟨11, .data⟩ (by simp) rfl
       rw [e11] at hK ⊢
       have e12 : vs 12 = _ := he ⟨12, .data⟩ (by simp) rfl
       rw [e12] at hK ⊢
       rw [if_pos (by rfl)]
       simp only [put_someT, setIfInBounds_toArray, set_cons_zero, set_cons_succ] at hK
       have HK := Lib.hid hK
       clear hK he hi hBW
       go_simp
       exact HK.out _ _ (ArgsAt.made (l := [Rc, Rb, Ra]) rfl (by simp) (all3T (TR3.out W (BR3.out.trans (BW.out.mono BR3.out.size))).2.2 (TR3.out W (BR3.out.trans (BW.out.mono BR3.out.size))).2.1 (TR3.out W (BR3.out.trans (BW.out.mono BR3.out.size))).1)) ((Below.refl _ _).alloc (Nat.le_refl _) _)
      ·simp only [getElem?_toArray, getElem?_cons_zero, getElem?_cons_succ, Option.some.injEq] at ho
       subst ho
       obtain ⟨g9, e9, t9⟩ := he ⟨13, .data⟩ (by simp) rfl
       simp only [List.length_cons, List.length_nil, Nat.reduceAdd, Nat.zero_add] at e9
       rw [e9] at hK ⊢
       rw [if_pos (by rfl)]
       simp only [put_someT, setIfInBounds_toArray, set_cons_zero, set_cons_succ] at hK
       have HK := Lib.hid hK
       clear hK he hi hBW
       go_simp
       go_at_call 44
       refine (of14_any _ _ _ _ _).mono ?_
       rintro en w9 ⟨rfl, h⟩
       go_simp
       exact HK.out _ _ ⟨g9, rfl, ((t9 _).keeps h).more h.size⟩ h
      ·simp only [getElem?_toArray, getElem?_cons_zero, getElem?_cons_succ, Option.some.injEq] at ho
       subst ho
       have e8 : vs 8 = _ := he ⟨8, .data⟩ (by simp) rfl
       rw [e8] at hK ⊢
       have e9 : vs 9 = _ := he ⟨9, .data⟩ (by simp) rfl
       rw [e9] at hK ⊢
       obtain ⟨g9, e9, t9⟩ := he ⟨14, .data⟩ (by simp) rfl
       simp only [List.length_cons, List.length_nil, Nat.reduceAdd, Nat.zero_add] at e9
       rw [e9] at hK ⊢
       rw [if_pos (by rfl)]
       simp only [put_someT, setIfInBounds_toArray, set_cons_zero, set_cons_succ] at hK
       have HK := Lib.hid hK
       clear hK he hi hBW
       have CW := SW2.out g9 W (BR3.out.trans (BW.out.mono BR3.out.size)) t9
       go_simp
       go_at_call 40
       refine CW.mono ?_
       rintro en w9 ⟨rfl, h⟩
       go_simp
       exact HK.out _ _ rfl h
      ·simp only [getElem?_toArray, getElem?_cons_zero, getElem?_cons_succ, Option.some.injEq] at ho
       subst ho
       have e7 : vs 7 = _ := he ⟨7, .data⟩ (by simp) rfl
       rw [e7] at hK ⊢
       have e15 : vs 15 = _ := he ⟨15, .data⟩ (by simp) rfl
       rw [e15] at hK ⊢
       rw [if_pos (by rfl)]
       simp only [put_someT, setIfInBounds_toArray, set_cons_zero, set_cons_succ] at hK
       have HK := Lib.hid hK
       clear hK he hi hBW
       go_simp
       exact HK.out _ _ (by simp [tu13]) (Below.refl _ _)
      ·simp only [getElem?_toArray, getElem?_cons_zero, getElem?_cons_succ, Option.some.injEq] at ho
       subst ho
       have e16 : vs 16 = _ := he ⟨16, .data⟩ (by simp) rfl
       rw [e16] at hK ⊢
       rw [if_pos (by rfl)]
       simp only [put_someT, setIfInBounds_toArray, set_cons_zero, set_cons_succ] at hK
       have HK := Lib.hid hK
       clear hK he hi hBW
       go_simp
       exact HK.out _ _ (by first | rfl | simp [tu13]) (Below.refl _ _)
     ·intro vs W9 hall hBW
      have eo : vs 17 = .bool true := hall 17 (by decide)
      simp only [take_succ_cons, take_zero, List.drop_succ_cons, List.drop_zero, fillV, put_someT, put_noneC, setIfInBounds_toArray, set_cons_zero, set_cons_succ]
      rw [eo]
      generalize vs 0 = q0
      generalize vs 1 = q1
      generalize vs 2 = q2
      generalize vs 3 = q3
      generalize vs 4 = q4
      generalize vs 5 = q5
      generalize vs 6 = q6
      generalize vs 7 = q7
      generalize vs 8 = q8
      generalize vs 9 = q9
      generalize vs 10 = q10
      generalize vs 11 = q11
      generalize vs 12 = q12
      generalize vs 13 = q13
      generalize vs 14 = q14
      generalize vs 15 = q15
      generalize vs 16 = q16
      have B9 := Lib.hid (B9R.out.trans (hBW.mono B9R.out.size))
      clear hall hBW eo
      go_wp2_with fail
      go_ret
      exact ⟨rfl, B9.out⟩
end Go.Proofs.YteobmfpbgnmffaaGreatDoor
