/- TrIs2 -/
import Derived.Test.YteobmfpbgnmffaaGreatDoorTruthMoreRowG34
import Derived.Test.YteobmfpbgnmffaaGreatDoorTruthMoreRowG22
set_option linter.unusedSimpArgs false
set_option linter.unusedVariables false
open List (getElem?_toArray getElem?_cons_zero getElem?_cons_succ setIfInBounds_toArray set_cons_zero set_cons_succ take_succ_cons take_zero)
/- Walks: If and Unless, and what a Without asks (truth.asked: iff, unless, without$1). -/


namespace Go.Proofs.YteobmfpbgnmffaaGreatDoor
open Go.RowKit Go.Shelf
set_option linter.unusedVariables false

def trP1 (T rb N rx b o c  : Nat) (i : Nat) (v : Value) (W : World) : Prop := match i with
  | 0 => v = .pointer (some ⟨rx, 6, none⟩)
  | 1 => v = .slice (some ⟨b, o, none⟩) 2 c
  | 2 => v = .int .i64 2
  | 3 => v = .bool true
  | 4 => v = .bool true
  | 5 => v = undef
  | 6 => v = undef
  | 7 => v = undef
  | 8 => v = undef
  | 9 => v = undef
  | 10 => v = undef
  | 11 => v = .bool true
  | _ => False
theorem trP1_mono (T rb N rx b o c  : Nat) : ∀ i v w w', trP1 T rb N rx b o c    i v w → Below w.heap.size w w' → trP1 T rb N rx b o c    i v w' := by
  intro i v w w' h hb
  match i, h with
  | 0, h => exact h
  | 1, h => exact h
  | 2, h => exact h
  | 3, h => exact h
  | 4, h => exact h
  | 5, h => exact h
  | 6, h => exact h
  | 7, h => exact h
  | 8, h => exact h
  | 9, h => exact h
  | 10, h => exact h
  | 11, h => exact h
  | (k + 12), h => exact h.elim
def trP2 (T rb N rx b o c o0 : Nat) (S0 : RV) (r0 : Bool) (i : Nat) (v : Value) (W : World) : Prop := match i with
  | 0 => v = .agg #[.pointer (some ⟨T, 0, none⟩), .slice (some ⟨rb, 0, none⟩) N N]
  | 1 => v = .pointer (some ⟨rx, 6, none⟩)
  | 2 => v = .slice (some ⟨b, o, none⟩) 2 c
  | 3 => v = .pointer (some ⟨b, o0, none⟩)
  | 4 => v = .agg #[.int .u8 S0.kind, .string (bs S0.dep.name), .int .u8 S0.dep.op, .int .i64 S0.dep.evr.epoch, .string (bs S0.dep.evr.ver), .string (bs S0.dep.evr.rel), .slice S0.addr S0.args.length S0.cap]
  | 5 => v = .bool r0
  | _ => False
theorem trP2_mono (T rb N rx b o c o0 : Nat) (S0 : RV) (r0 : Bool) : ∀ i v w w', trP2 T rb N rx b o c o0 S0 r0 i v w → Below w.heap.size w w' → trP2 T rb N rx b o c o0 S0 r0 i v w' := by
  intro i v w w' h hb
  match i, h with
  | 0, h => exact h
  | 1, h => exact h
  | 2, h => exact h
  | 3, h => exact h
  | 4, h => exact h
  | 5, h => exact h
  | (k + 6), h => exact h.elim
def trP3 (T rb N rx b o c o1 : Nat) (S1 : RV) (r1 : Bool) (i : Nat) (v : Value) (W : World) : Prop := match i with
  | 0 => v = .agg #[.pointer (some ⟨T, 0, none⟩), .slice (some ⟨rb, 0, none⟩) N N]
  | 1 => v = .pointer (some ⟨rx, 6, none⟩)
  | 2 => v = .slice (some ⟨b, o, none⟩) 2 c
  | 3 => v = .pointer (some ⟨b, o1, none⟩)
  | 4 => v = .agg #[.int .u8 S1.kind, .string (bs S1.dep.name), .int .u8 S1.dep.op, .int .i64 S1.dep.evr.epoch, .string (bs S1.dep.evr.ver), .string (bs S1.dep.evr.rel), .slice S1.addr S1.args.length S1.cap]
  | 5 => v = .bool r1
  | _ => False
theorem trP3_mono (T rb N rx b o c o1 : Nat) (S1 : RV) (r1 : Bool) : ∀ i v w w', trP3 T rb N rx b o c o1 S1 r1 i v w → Below w.heap.size w w' → trP3 T rb N rx b o c o1 S1 r1 i v w' := by
  intro i v w w' h hb
  match i, h with
  | 0, h => exact h
  | 1, h => exact h
  | 2, h => exact h
  | 3, h => exact h
  | 4, h => exact h
  | 5, h => exact h
  | (k + 6), h => exact h.elim
def trP4 (T rb N rx b o c o2 : Nat) (S2 : RV) (r2 : Bool) (i : Nat) (v : Value) (W : World) : Prop := match i with
  | 0 => v = .pointer (some ⟨rx, 6, none⟩)
  | 1 => v = .slice (some ⟨b, o, none⟩) 3 c
  | 2 => v = .int .i64 3
  | 3 => v = .bool false
  | 4 => v = .bool false
  | 5 => v = .agg #[.pointer (some ⟨T, 0, none⟩), .slice (some ⟨rb, 0, none⟩) N N]
  | 6 => v = .pointer (some ⟨rx, 6, none⟩)
  | 7 => v = .slice (some ⟨b, o, none⟩) 3 c
  | 8 => v = .pointer (some ⟨b, o2, none⟩)
  | 9 => v = .agg #[.int .u8 S2.kind, .string (bs S2.dep.name), .int .u8 S2.dep.op, .int .i64 S2.dep.evr.epoch, .string (bs S2.dep.evr.ver), .string (bs S2.dep.evr.rel), .slice S2.addr S2.args.length S2.cap]
  | 10 => v = .bool r2
  | 11 => v = .bool r2
  | _ => False
theorem trP4_mono (T rb N rx b o c o2 : Nat) (S2 : RV) (r2 : Bool) : ∀ i v w w', trP4 T rb N rx b o c o2 S2 r2 i v w → Below w.heap.size w w' → trP4 T rb N rx b o c o2 S2 r2 i v w' := by
  intro i v w w' h hb
  match i, h with
  | 0, h => exact h
  | 1, h => exact h
  | 2, h => exact h
  | 3, h => exact h
  | 4, h => exact h
  | 5, h => exact h
  | 6, h => exact h
  | 7, h => exact h
  | 8, h => exact h
  | 9, h => exact h
  | 10, h => exact h
  | 11, h => exact h
  | (k + 12), h => exact h.elim
def trP5 (T rb N rx b o c o0 : Nat) (S0 : RV) (r0 : Bool) (i : Nat) (v : Value) (W : World) : Prop := match i with
  | 0 => v = .agg #[.pointer (some ⟨T, 0, none⟩), .slice (some ⟨rb, 0, none⟩) N N]
  | 1 => v = .pointer (some ⟨rx, 6, none⟩)
  | 2 => v = .slice (some ⟨b, o, none⟩) 3 c
  | 3 => v = .pointer (some ⟨b, o0, none⟩)
  | 4 => v = .agg #[.int .u8 S0.kind, .string (bs S0.dep.name), .int .u8 S0.dep.op, .int .i64 S0.dep.evr.epoch, .string (bs S0.dep.evr.ver), .string (bs S0.dep.evr.rel), .slice S0.addr S0.args.length S0.cap]
  | 5 => v = .bool r0
  | _ => False
theorem trP5_mono (T rb N rx b o c o0 : Nat) (S0 : RV) (r0 : Bool) : ∀ i v w w', trP5 T rb N rx b o c o0 S0 r0 i v w → Below w.heap.size w w' → trP5 T rb N rx b o c o0 S0 r0 i v w' := by
  intro i v w w' h hb
  match i, h with
  | 0, h => exact h
  | 1, h => exact h
  | 2, h => exact h
  | 3, h => exact h
  | 4, h => exact h
  | 5, h => exact h
  | (k + 6), h => exact h.elim
def trP6 (T rb N rx b o c o1 : Nat) (S1 : RV) (r1 : Bool) (i : Nat) (v : Value) (W : World) : Prop := match i with
  | 0 => v = .agg #[.pointer (some ⟨T, 0, none⟩), .slice (some ⟨rb, 0, none⟩) N N]
  | 1 => v = .pointer (some ⟨rx, 6, none⟩)
  | 2 => v = .slice (some ⟨b, o, none⟩) 3 c
  | 3 => v = .pointer (some ⟨b, o1, none⟩)
  | 4 => v = .agg #[.int .u8 S1.kind, .string (bs S1.dep.name), .int .u8 S1.dep.op, .int .i64 S1.dep.evr.epoch, .string (bs S1.dep.evr.ver), .string (bs S1.dep.evr.rel), .slice S1.addr S1.args.length S1.cap]
  | 5 => v = .bool r1
  | _ => False
theorem trP6_mono (T rb N rx b o c o1 : Nat) (S1 : RV) (r1 : Bool) : ∀ i v w w', trP6 T rb N rx b o c o1 S1 r1 i v w → Below w.heap.size w w' → trP6 T rb N rx b o c o1 S1 r1 i v w' := by
  intro i v w w' h hb
  match i, h with
  | 0, h => exact h
  | 1, h => exact h
  | 2, h => exact h
  | 3, h => exact h
  | 4, h => exact h
  | 5, h => exact h
  | (k + 6), h => exact h.elim
def trP7 (T rb N rx b o c  : Nat) (i : Nat) (v : Value) (W : World) : Prop := match i with
  | 0 => v = .pointer (some ⟨rx, 6, none⟩)
  | 1 => v = .slice (some ⟨b, o, none⟩) 2 c
  | 2 => v = .int .i64 2
  | 3 => v = .bool false
  | 4 => v = .bool false
  | 5 => v = undef
  | 6 => v = undef
  | 7 => v = undef
  | 8 => v = undef
  | 9 => v = undef
  | 10 => v = undef
  | 11 => v = .bool false
  | _ => False
theorem trP7_mono (T rb N rx b o c  : Nat) : ∀ i v w w', trP7 T rb N rx b o c    i v w → Below w.heap.size w w' → trP7 T rb N rx b o c    i v w' := by
  intro i v w w' h hb
  match i, h with
  | 0, h => exact h
  | 1, h => exact h
  | 2, h => exact h
  | 3, h => exact h
  | 4, h => exact h
  | 5, h => exact h
  | 6, h => exact h
  | 7, h => exact h
  | 8, h => exact h
  | 9, h => exact h
  | 10, h => exact h
  | 11, h => exact h
  | (k + 12), h => exact h.elim
def trP8 (T rb N rx b o c o0 : Nat) (S0 : RV) (r0 : Bool) (i : Nat) (v : Value) (W : World) : Prop := match i with
  | 0 => v = .agg #[.pointer (some ⟨T, 0, none⟩), .slice (some ⟨rb, 0, none⟩) N N]
  | 1 => v = .pointer (some ⟨rx, 6, none⟩)
  | 2 => v = .slice (some ⟨b, o, none⟩) 2 c
  | 3 => v = .pointer (some ⟨b, o0, none⟩)
  | 4 => v = .agg #[.int .u8 S0.kind, .string (bs S0.dep.name), .int .u8 S0.dep.op, .int .i64 S0.dep.evr.epoch, .string (bs S0.dep.evr.ver), .string (bs S0.dep.evr.rel), .slice S0.addr S0.args.length S0.cap]
  | 5 => v = .bool r0
  | _ => False
theorem trP8_mono (T rb N rx b o c o0 : Nat) (S0 : RV) (r0 : Bool) : ∀ i v w w', trP8 T rb N rx b o c o0 S0 r0 i v w → Below w.heap.size w w' → trP8 T rb N rx b o c o0 S0 r0 i v w' := by
  intro i v w w' h hb
  match i, h with
  | 0, h => exact h
  | 1, h => exact h
  | 2, h => exact h
  | 3, h => exact h
  | 4, h => exact h
  | 5, h => exact h
  | (k + 6), h => exact h.elim
def trP9 (T rb N rx b o c o1 : Nat) (S1 : RV) (r1 : Bool) (i : Nat) (v : Value) (W : World) : Prop := match i with
  | 0 => v = .agg #[.pointer (some ⟨T, 0, none⟩), .slice (some ⟨rb, 0, none⟩) N N]
  | 1 => v = .pointer (some ⟨rx, 6, none⟩)
  | 2 => v = .slice (some ⟨b, o, none⟩) 2 c
  | 3 => v = .pointer (some ⟨b, o1, none⟩)
  | 4 => v = .agg #[.int .u8 S1.kind, .string (bs S1.dep.name), .int .u8 S1.dep.op, .int .i64 S1.dep.evr.epoch, .string (bs S1.dep.evr.ver), .string (bs S1.dep.evr.rel), .slice S1.addr S1.args.length S1.cap]
  | 5 => v = .bool r1
  | _ => False
theorem trP9_mono (T rb N rx b o c o1 : Nat) (S1 : RV) (r1 : Bool) : ∀ i v w w', trP9 T rb N rx b o c o1 S1 r1 i v w → Below w.heap.size w w' → trP9 T rb N rx b o c o1 S1 r1 i v w' := by
  intro i v w w' h hb
  match i, h with
  | 0, h => exact h
  | 1, h => exact h
  | 2, h => exact h
  | 3, h => exact h
  | 4, h => exact h
  | 5, h => exact h
  | (k + 6), h => exact h.elim
def trP10 (T rb N rx b o c o2 : Nat) (S2 : RV) (r2 : Bool) (i : Nat) (v : Value) (W : World) : Prop := match i with
  | 0 => v = .pointer (some ⟨rx, 6, none⟩)
  | 1 => v = .slice (some ⟨b, o, none⟩) 3 c
  | 2 => v = .int .i64 3
  | 3 => v = .bool true
  | 4 => v = .bool true
  | 5 => v = .agg #[.pointer (some ⟨T, 0, none⟩), .slice (some ⟨rb, 0, none⟩) N N]
  | 6 => v = .pointer (some ⟨rx, 6, none⟩)
  | 7 => v = .slice (some ⟨b, o, none⟩) 3 c
  | 8 => v = .pointer (some ⟨b, o2, none⟩)
  | 9 => v = .agg #[.int .u8 S2.kind, .string (bs S2.dep.name), .int .u8 S2.dep.op, .int .i64 S2.dep.evr.epoch, .string (bs S2.dep.evr.ver), .string (bs S2.dep.evr.rel), .slice S2.addr S2.args.length S2.cap]
  | 10 => v = .bool r2
  | 11 => v = .bool r2
  | _ => False
theorem trP10_mono (T rb N rx b o c o2 : Nat) (S2 : RV) (r2 : Bool) : ∀ i v w w', trP10 T rb N rx b o c o2 S2 r2 i v w → Below w.heap.size w w' → trP10 T rb N rx b o c o2 S2 r2 i v w' := by
  intro i v w w' h hb
  match i, h with
  | 0, h => exact h
  | 1, h => exact h
  | 2, h => exact h
  | 3, h => exact h
  | 4, h => exact h
  | 5, h => exact h
  | 6, h => exact h
  | 7, h => exact h
  | 8, h => exact h
  | 9, h => exact h
  | 10, h => exact h
  | 11, h => exact h
  | (k + 12), h => exact h.elim
def trP11 (T rb N rx b o c o0 : Nat) (S0 : RV) (r0 : Bool) (i : Nat) (v : Value) (W : World) : Prop := match i with
  | 0 => v = .agg #[.pointer (some ⟨T, 0, none⟩), .slice (some ⟨rb, 0, none⟩) N N]
  | 1 => v = .pointer (some ⟨rx, 6, none⟩)
  | 2 => v = .slice (some ⟨b, o, none⟩) 3 c
  | 3 => v = .pointer (some ⟨b, o0, none⟩)
  | 4 => v = .agg #[.int .u8 S0.kind, .string (bs S0.dep.name), .int .u8 S0.dep.op, .int .i64 S0.dep.evr.epoch, .string (bs S0.dep.evr.ver), .string (bs S0.dep.evr.rel), .slice S0.addr S0.args.length S0.cap]
  | 5 => v = .bool r0
  | _ => False
theorem trP11_mono (T rb N rx b o c o0 : Nat) (S0 : RV) (r0 : Bool) : ∀ i v w w', trP11 T rb N rx b o c o0 S0 r0 i v w → Below w.heap.size w w' → trP11 T rb N rx b o c o0 S0 r0 i v w' := by
  intro i v w w' h hb
  match i, h with
  | 0, h => exact h
  | 1, h => exact h
  | 2, h => exact h
  | 3, h => exact h
  | 4, h => exact h
  | 5, h => exact h
  | (k + 6), h => exact h.elim
def trP12 (T rb N rx b o c o1 : Nat) (S1 : RV) (r1 : Bool) (i : Nat) (v : Value) (W : World) : Prop := match i with
  | 0 => v = .agg #[.pointer (some ⟨T, 0, none⟩), .slice (some ⟨rb, 0, none⟩) N N]
  | 1 => v = .pointer (some ⟨rx, 6, none⟩)
  | 2 => v = .slice (some ⟨b, o, none⟩) 3 c
  | 3 => v = .pointer (some ⟨b, o1, none⟩)
  | 4 => v = .agg #[.int .u8 S1.kind, .string (bs S1.dep.name), .int .u8 S1.dep.op, .int .i64 S1.dep.evr.epoch, .string (bs S1.dep.evr.ver), .string (bs S1.dep.evr.rel), .slice S1.addr S1.args.length S1.cap]
  | 5 => v = .bool r1
  | _ => False
theorem trP12_mono (T rb N rx b o c o1 : Nat) (S1 : RV) (r1 : Bool) : ∀ i v w w', trP12 T rb N rx b o c o1 S1 r1 i v w → Below w.heap.size w w' → trP12 T rb N rx b o c o1 S1 r1 i v w' := by
  intro i v w w' h hb
  match i, h with
  | 0, h => exact h
  | 1, h => exact h
  | 2, h => exact h
  | 3, h => exact h
  | 4, h => exact h
  | 5, h => exact h
  | (k + 6), h => exact h.elim

theorem rrow_cells {B : Nat} {W : World} {A : Option Addr} {cap : Nat} {l : List RV} {b o : Nat} (h : RRow B W A cap l) (hA : A = some ⟨b, o, none⟩) {k : Nat} (hk : k < l.length) : W.cell? ⟨b, o + k * 7, none⟩ = some (.int .u8 l[k].kind) ∧ W.cell? ⟨b, o + k * 7 + 1, none⟩ = some (.string (bs l[k].dep.name)) ∧ W.cell? ⟨b, o + k * 7 + 2, none⟩ = some (.int .u8 l[k].dep.op) ∧ W.cell? ⟨b, o + k * 7 + 3, none⟩ = some (.int .i64 l[k].dep.evr.epoch) ∧ W.cell? ⟨b, o + k * 7 + 4, none⟩ = some (.string (bs l[k].dep.evr.ver)) ∧ W.cell? ⟨b, o + k * 7 + 5, none⟩ = some (.string (bs l[k].dep.evr.rel)) ∧ W.cell? ⟨b, o + k * 7 + 6, none⟩ = some (.slice l[k].addr l[k].args.length l[k].cap) := by
  obtain ⟨b', o', e, _, hc⟩ := h.at_ hk
  rw [hA] at e
  cases e
  exact hc
section
variable {T X N : Nat} {L : List Pk}
set_option maxRecDepth 100000 in
set_option maxHeartbeats 16000000 in
theorem iff2_any (R : RV) (hn : R.args.length = 2) (hR : ∀ a ∈ R.args, IsOk T X N L a) (rb : Nat) (f : Nat → Bool) (U : World) (hA : AskT T X N rb L f U) (hT : RTree U.heap.size U R) :
    Calls Tryz.prog 139 #[askW T rb N, R.val] U fun e w' => e = .returned (.bool (if Tr.sat N (pvL L) (R.args[1]'(by omega)).tree f then Tr.sat N (pvL L) (R.args[0]'(by omega)).tree f else true)) ∧ Below U.heap.size U w' := by
  have b1 := (Below.refl U.heap.size U).alloc (Nat.le_refl _) (.cells #[.pointer (some ⟨T, 0, none⟩), .slice (some ⟨rb, 0, none⟩) N N] 145)
  have b2 := b1.alloc (by simp) (.cells #[.int .u8 R.kind, .string (bs R.dep.name), .int .u8 R.dep.op, .int .i64 R.dep.evr.epoch, .string (bs R.dep.evr.ver), .string (bs R.dep.evr.rel), .slice R.addr R.args.length R.cap] 39)
  have a1 := (ABox.new T rb N U 145).then ((Below.refl _ _).alloc (Nat.le_refl _) (.cells #[.int .u8 R.kind, .string (bs R.dep.name), .int .u8 R.dep.op, .int .i64 R.dep.evr.epoch, .string (bs R.dep.evr.ver), .string (bs R.dep.evr.rel), .slice R.addr R.args.length R.cap] 39))
  obtain ⟨b, o, hA0, _⟩ := (show RRow U.heap.size U R.addr R.cap R.args from ⟨hT.row, hT.sub⟩).at_ (k := 0) (by omega)
  have IS0 := Lib.hid (fun W' (hb : Below U.heap.size U W') => hR (R.args[0]'(by omega)) (List.getElem_mem _) rb f W' (hA.then hb) (((hT.sub _ (List.getElem_mem _)).keeps hb).more hb.size))
  have RC0 := Lib.hid (fun W' (hb : Below U.heap.size U W') => rrow_cells (((show RRow U.heap.size U R.addr R.cap R.args from ⟨hT.row, hT.sub⟩).below hb)) hA0 (k := 0) (by omega))
  obtain ⟨o0, ho0⟩ : ∃ o0, o0 = o + 0 * 7 := ⟨_, rfl⟩
  rw [← ho0] at RC0
  have HO0 := Lib.hid ho0
  have IS1 := Lib.hid (fun W' (hb : Below U.heap.size U W') => hR (R.args[1]'(by omega)) (List.getElem_mem _) rb f W' (hA.then hb) (((hT.sub _ (List.getElem_mem _)).keeps hb).more hb.size))
  have RC1 := Lib.hid (fun W' (hb : Below U.heap.size U W') => rrow_cells (((show RRow U.heap.size U R.addr R.cap R.args from ⟨hT.row, hT.sub⟩).below hb)) hA0 (k := 1) (by omega))
  obtain ⟨o1, ho1⟩ : ∃ o1, o1 = o + 1 * 7 := ⟨_, rfl⟩
  rw [← ho1] at RC1
  have HO1 := Lib.hid ho1
  unfold askW RV.val at IS0 IS1
  unfold askW RV.val
  clear hA hT hR b1
  generalize (R.args[0]'(by omega)) = S0 at *
  generalize Tr.sat N (pvL L) S0.tree f = r0 at *
  generalize (R.args[1]'(by omega)) = S1 at *
  generalize Tr.sat N (pvL L) S1.tree f = r1 at *
  clear ho0 ho1
  rw [hA0] at a1 b2 ⊢
  rw [hn] at a1 b2 ⊢
  clear hn
  go_enter Tryz.func139, Tryz.ntmps139
  go_wp2_with fail
  obtain ⟨V, hV⟩ : ∃ V, V = (U.alloc (.cells #[.pointer (some ⟨T, 0, none⟩), .slice (some ⟨rb, 0, none⟩) N N] 145)).alloc (.cells #[.int .u8 R.kind, .string (bs R.dep.name), .int .u8 R.dep.op, .int .i64 R.dep.evr.epoch, .string (bs R.dep.evr.ver), .string (bs R.dep.evr.rel), .slice (some ⟨b, o, none⟩) 2 R.cap] 39) := ⟨_, rfl⟩
  have RX6 := Lib.hid (show V.cell? ⟨U.heap.size + 1, 6, none⟩ = some (.slice (some ⟨b, o, none⟩) 2 R.cap) by rw [hV]; simp [go_sem])
  have RXL := Lib.hid (show U.heap.size + 1 < V.heap.size by rw [hV]; simp)
  rw [← hV] at a1 b2 ⊢
  have AX := Lib.hid a1
  have BZ := Lib.hid b2
  clear hV a1 b2
  have RC1 := Lib.hid (fun W' (hb : Below V.heap.size V W') => RC1.out W' (BZ.out.trans (hb.mono BZ.out.size)))
  have IS1 := Lib.hid (fun W' (hb : Below V.heap.size V W') => IS1.out W' (BZ.out.trans (hb.mono BZ.out.size)))
  have RC0 := Lib.hid (fun W' (hb : Below V.heap.size V W') => RC0.out W' (BZ.out.trans (hb.mono BZ.out.size)))
  have IS0 := Lib.hid (fun W' (hb : Below V.heap.size V W') => IS0.out W' (BZ.out.trans (hb.mono BZ.out.size)))
  generalize R.cap = c at *
  have BV := Lib.hid (Below.refl V.heap.size V)
  refine wp_region_tail (PP := trP3 T rb N (U.heap.size + 1) b o c o1 S1 r1) 6 rfl (by kernel_rfl) (by kernel_rfl) (by decide) (by decide) (trP3_mono T rb N (U.heap.size + 1) b o c o1 S1 r1) (fun _ => undef) (by simp [fillV, put_someT, setIfInBounds_toArray, set_cons_zero, set_cons_succ]) ?_ ?_
  · intro i o vs W hi ho he hBW K hK
    simp only [take_succ_cons, take_zero, fillV, put_someT, setIfInBounds_toArray, set_cons_zero, set_cons_succ] at hK ⊢
    have BW := Lib.hid (BV.out.trans (hBW.mono BV.out.size))
    have AXW := Lib.hid (AX.out.then BW.out)
    have R6W := Lib.hid ((BW.out.cell (p := ⟨U.heap.size + 1, 6, none⟩) RXL.out).trans RX6.out)
    obtain rfl | rfl | rfl | rfl | rfl | rfl := (show i = 0 ∨ i = 1 ∨ i = 2 ∨ i = 3 ∨ i = 4 ∨ i = 5 by exact (by have : i < 6 := hi; omega))
    · simp only [getElem?_toArray, getElem?_cons_zero, getElem?_cons_succ, Option.some.injEq] at ho
      subst ho
      rw [if_pos (by rfl)]
      simp only [put_someT, setIfInBounds_toArray, set_cons_zero, set_cons_succ] at hK
      have HK := Lib.hid hK
      clear hK he hi hBW
      have a0 := AXW.out.2.1
      have a1 := AXW.out.2.2
      go_simp
      exact HK.out _ _ rfl (Below.refl _ _)
    · simp only [getElem?_toArray, getElem?_cons_zero, getElem?_cons_succ, Option.some.injEq] at ho
      subst ho
      rw [if_pos (by rfl)]
      simp only [put_someT, setIfInBounds_toArray, set_cons_zero, set_cons_succ] at hK
      have HK := Lib.hid hK
      clear hK he hi hBW
      go_simp
      exact HK.out _ _ (by first | rfl | simp [trP3]) (Below.refl _ _)
    · simp only [getElem?_toArray, getElem?_cons_zero, getElem?_cons_succ, Option.some.injEq] at ho
      subst ho
      have e1 : vs 1 = .pointer (some ⟨U.heap.size + 1, 6, none⟩) := (he ⟨1, .data⟩ (by simp) rfl : trP3 T rb N (U.heap.size + 1) b o c o1 S1 r1 1 (vs 1) W)
      rw [e1] at hK ⊢
      rw [if_pos (by rfl)]
      simp only [put_someT, setIfInBounds_toArray, set_cons_zero, set_cons_succ] at hK
      have HK := Lib.hid hK
      clear hK he hi hBW
      have cx := R6W.out
      go_simp
      exact HK.out _ _ rfl (Below.refl _ _)
    · simp only [getElem?_toArray, getElem?_cons_zero, getElem?_cons_succ, Option.some.injEq] at ho
      subst ho
      have e2 : vs 2 = .slice (some ⟨b, o, none⟩) 2 c := (he ⟨2, .data⟩ (by simp) rfl : trP3 T rb N (U.heap.size + 1) b o c o1 S1 r1 2 (vs 2) W)
      rw [e2] at hK ⊢
      rw [if_pos (by rfl)]
      simp only [put_someT, setIfInBounds_toArray, set_cons_zero, set_cons_succ] at hK
      have HK := Lib.hid hK
      clear hK he hi hBW
      go_simp
      exact HK.out _ _ (by rw [HO1.out]; rfl) (Below.refl _ _)
    · simp only [getElem?_toArray, getElem?_cons_zero, getElem?_cons_succ, Option.some.injEq] at ho
      subst ho
      have e3 : vs 3 = .pointer (some ⟨b, o1, none⟩) := (he ⟨3, .data⟩ (by simp) rfl : trP3 T rb N (U.heap.size + 1) b o c o1 S1 r1 3 (vs 3) W)
      rw [e3] at hK ⊢
      rw [if_pos (by rfl)]
      simp only [put_someT, setIfInBounds_toArray, set_cons_zero, set_cons_succ] at hK
      have HK := Lib.hid hK
      clear hK he hi hBW
      obtain ⟨d0, d1, d2, d3, d4, d5, d6⟩ := RC1.out W BW.out
      go_simp
      exact HK.out _ _ rfl (Below.refl _ _)
    · simp only [getElem?_toArray, getElem?_cons_zero, getElem?_cons_succ, Option.some.injEq] at ho
      subst ho
      have e0 : vs 0 = .agg #[.pointer (some ⟨T, 0, none⟩), .slice (some ⟨rb, 0, none⟩) N N] := (he ⟨0, .data⟩ (by simp) rfl : trP3 T rb N (U.heap.size + 1) b o c o1 S1 r1 0 (vs 0) W)
      rw [e0] at hK ⊢
      have e4 : vs 4 = .agg #[.int .u8 S1.kind, .string (bs S1.dep.name), .int .u8 S1.dep.op, .int .i64 S1.dep.evr.epoch, .string (bs S1.dep.evr.ver), .string (bs S1.dep.evr.rel), .slice S1.addr S1.args.length S1.cap] := (he ⟨4, .data⟩ (by simp) rfl : trP3 T rb N (U.heap.size + 1) b o c o1 S1 r1 4 (vs 4) W)
      rw [e4] at hK ⊢
      rw [if_pos (by rfl)]
      simp only [put_someT, setIfInBounds_toArray, set_cons_zero, set_cons_succ] at hK
      have HK := Lib.hid hK
      clear hK he hi hBW
      have ISW := IS1.out W BW.out
      go_simp
      go_at_call 95
      refine ISW.mono ?_
      rintro en w9 ⟨rfl, h⟩
      go_simp
      exact HK.out _ _ rfl h
  · intro vs W hall hBW
    have eo : vs 5 = .bool r1 := hall 5 (by decide)
    simp only [take_succ_cons, take_zero, List.drop_succ_cons, List.drop_zero, fillV, put_someT, put_noneC, setIfInBounds_toArray, set_cons_zero, set_cons_succ]
    rw [eo]
    generalize vs 0 = y0
    generalize vs 1 = y1
    generalize vs 2 = y2
    generalize vs 3 = y3
    generalize vs 4 = y4
    have BX := Lib.hid (BV.out.trans (hBW.mono BV.out.size))
    clear hall hBW eo
    cases r1
    · have BX2 := Lib.hid BX.out
      go_wp2_with fail
      refine wp_region_tail (PP := trP1 T rb N (U.heap.size + 1) b o c   ) 12 rfl (by kernel_rfl) (by kernel_rfl) (by decide) (by decide) (trP1_mono T rb N (U.heap.size + 1) b o c   ) (fun _ => undef) (by simp [fillV, put_someT, setIfInBounds_toArray, set_cons_zero, set_cons_succ]) ?_ ?_
      · intro i o vs W hi ho he hBW K hK
        simp only [take_succ_cons, take_zero, fillV, put_someT, setIfInBounds_toArray, set_cons_zero, set_cons_succ] at hK ⊢
        have BW := Lib.hid (BX2.out.trans (hBW.mono BX2.out.size))
        have AXW := Lib.hid (AX.out.then BW.out)
        have R6W := Lib.hid ((BW.out.cell (p := ⟨U.heap.size + 1, 6, none⟩) RXL.out).trans RX6.out)
        obtain rfl | rfl | rfl | rfl | rfl | rfl | rfl | rfl | rfl | rfl | rfl | rfl := (show i = 0 ∨ i = 1 ∨ i = 2 ∨ i = 3 ∨ i = 4 ∨ i = 5 ∨ i = 6 ∨ i = 7 ∨ i = 8 ∨ i = 9 ∨ i = 10 ∨ i = 11 by exact (by have : i < 12 := hi; omega))
        · simp only [getElem?_toArray, getElem?_cons_zero, getElem?_cons_succ, Option.some.injEq] at ho
          subst ho
          rw [if_pos (by rfl)]
          simp only [put_someT, setIfInBounds_toArray, set_cons_zero, set_cons_succ] at hK
          have HK := Lib.hid hK
          clear hK he hi hBW
          go_simp
          exact HK.out _ _ (by first | rfl | simp [trP1]) (Below.refl _ _)
        · simp only [getElem?_toArray, getElem?_cons_zero, getElem?_cons_succ, Option.some.injEq] at ho
          subst ho
          have e0 : vs 0 = .pointer (some ⟨U.heap.size + 1, 6, none⟩) := (he ⟨0, .data⟩ (by simp) rfl : trP1 T rb N (U.heap.size + 1) b o c    0 (vs 0) W)
          rw [e0] at hK ⊢
          rw [if_pos (by rfl)]
          simp only [put_someT, setIfInBounds_toArray, set_cons_zero, set_cons_succ] at hK
          have HK := Lib.hid hK
          clear hK he hi hBW
          have cx := R6W.out
          go_simp
          exact HK.out _ _ rfl (Below.refl _ _)
        · simp only [getElem?_toArray, getElem?_cons_zero, getElem?_cons_succ, Option.some.injEq] at ho
          subst ho
          have e1 : vs 1 = .slice (some ⟨b, o, none⟩) 2 c := (he ⟨1, .data⟩ (by simp) rfl : trP1 T rb N (U.heap.size + 1) b o c    1 (vs 1) W)
          rw [e1] at hK ⊢
          rw [if_pos (by rfl)]
          simp only [put_someT, setIfInBounds_toArray, set_cons_zero, set_cons_succ] at hK
          have HK := Lib.hid hK
          clear hK he hi hBW
          go_simp
          exact HK.out _ _ (by first | rfl | simp [trP1]) (Below.refl _ _)
        · simp only [getElem?_toArray, getElem?_cons_zero, getElem?_cons_succ, Option.some.injEq] at ho
          subst ho
          have e2 : vs 2 = .int .i64 2 := (he ⟨2, .data⟩ (by simp) rfl : trP1 T rb N (U.heap.size + 1) b o c    2 (vs 2) W)
          rw [e2] at hK ⊢
          rw [if_pos (by rfl)]
          simp only [put_someT, setIfInBounds_toArray, set_cons_zero, set_cons_succ] at hK
          have HK := Lib.hid hK
          clear hK he hi hBW
          go_simp
          exact HK.out _ _ (by first | rfl | simp [trP1]) (Below.refl _ _)
        · simp only [getElem?_toArray, getElem?_cons_zero, getElem?_cons_succ, Option.some.injEq] at ho
          subst ho
          have e3 : vs 3 = .bool true := (he ⟨3, .data⟩ (by simp) rfl : trP1 T rb N (U.heap.size + 1) b o c    3 (vs 3) W)
          rw [e3] at hK ⊢
          rw [if_pos (by rfl)]
          simp only [put_someT, setIfInBounds_toArray, set_cons_zero, set_cons_succ] at hK
          have HK := Lib.hid hK
          clear hK he hi hBW
          go_simp
          exact HK.out _ _ (by first | rfl | simp [trP1]) (Below.refl _ _)
        · simp only [getElem?_toArray, getElem?_cons_zero, getElem?_cons_succ, Option.some.injEq] at ho
          subst ho
          have e4 : vs 4 = .bool true := (he ⟨4, .guard⟩ (by simp) rfl : trP1 T rb N (U.heap.size + 1) b o c    4 (vs 4) W)
          rw [e4] at hK ⊢
          rw [if_neg (by exact Bool.false_ne_true)]
          exact hK _ _ rfl (Below.refl _ _)
        · simp only [getElem?_toArray, getElem?_cons_zero, getElem?_cons_succ, Option.some.injEq] at ho
          subst ho
          have e4 : vs 4 = .bool true := (he ⟨4, .guard⟩ (by simp) rfl : trP1 T rb N (U.heap.size + 1) b o c    4 (vs 4) W)
          rw [e4] at hK ⊢
          rw [if_neg (by exact Bool.false_ne_true)]
          exact hK _ _ rfl (Below.refl _ _)
        · simp only [getElem?_toArray, getElem?_cons_zero, getElem?_cons_succ, Option.some.injEq] at ho
          subst ho
          have e6 : vs 6 = undef := (he ⟨6, .data⟩ (by simp) rfl : trP1 T rb N (U.heap.size + 1) b o c    6 (vs 6) W)
          rw [e6] at hK ⊢
          have e4 : vs 4 = .bool true := (he ⟨4, .guard⟩ (by simp) rfl : trP1 T rb N (U.heap.size + 1) b o c    4 (vs 4) W)
          rw [e4] at hK ⊢
          rw [if_neg (by exact Bool.false_ne_true)]
          exact hK _ _ rfl (Below.refl _ _)
        · simp only [getElem?_toArray, getElem?_cons_zero, getElem?_cons_succ, Option.some.injEq] at ho
          subst ho
          have e7 : vs 7 = undef := (he ⟨7, .data⟩ (by simp) rfl : trP1 T rb N (U.heap.size + 1) b o c    7 (vs 7) W)
          rw [e7] at hK ⊢
          have e4 : vs 4 = .bool true := (he ⟨4, .guard⟩ (by simp) rfl : trP1 T rb N (U.heap.size + 1) b o c    4 (vs 4) W)
          rw [e4] at hK ⊢
          rw [if_neg (by exact Bool.false_ne_true)]
          exact hK _ _ rfl (Below.refl _ _)
        · simp only [getElem?_toArray, getElem?_cons_zero, getElem?_cons_succ, Option.some.injEq] at ho
          subst ho
          have e8 : vs 8 = undef := (he ⟨8, .data⟩ (by simp) rfl : trP1 T rb N (U.heap.size + 1) b o c    8 (vs 8) W)
          rw [e8] at hK ⊢
          have e4 : vs 4 = .bool true := (he ⟨4, .guard⟩ (by simp) rfl : trP1 T rb N (U.heap.size + 1) b o c    4 (vs 4) W)
          rw [e4] at hK ⊢
          rw [if_neg (by exact Bool.false_ne_true)]
          exact hK _ _ rfl (Below.refl _ _)
        · simp only [getElem?_toArray, getElem?_cons_zero, getElem?_cons_succ, Option.some.injEq] at ho
          subst ho
          have e5 : vs 5 = undef := (he ⟨5, .data⟩ (by simp) rfl : trP1 T rb N (U.heap.size + 1) b o c    5 (vs 5) W)
          rw [e5] at hK ⊢
          have e9 : vs 9 = undef := (he ⟨9, .data⟩ (by simp) rfl : trP1 T rb N (U.heap.size + 1) b o c    9 (vs 9) W)
          rw [e9] at hK ⊢
          have e4 : vs 4 = .bool true := (he ⟨4, .guard⟩ (by simp) rfl : trP1 T rb N (U.heap.size + 1) b o c    4 (vs 4) W)
          rw [e4] at hK ⊢
          rw [if_neg (by exact Bool.false_ne_true)]
          exact hK _ _ rfl (Below.refl _ _)
        · simp only [getElem?_toArray, getElem?_cons_zero, getElem?_cons_succ, Option.some.injEq] at ho
          subst ho
          have e4 : vs 4 = .bool true := (he ⟨4, .data⟩ (by simp) rfl : trP1 T rb N (U.heap.size + 1) b o c    4 (vs 4) W)
          rw [e4] at hK ⊢
          have e10 : vs 10 = undef := (he ⟨10, .data⟩ (by simp) rfl : trP1 T rb N (U.heap.size + 1) b o c    10 (vs 10) W)
          rw [e10] at hK ⊢
          rw [if_pos (by rfl)]
          simp only [put_someT, setIfInBounds_toArray, set_cons_zero, set_cons_succ] at hK
          have HK := Lib.hid hK
          clear hK he hi hBW
          go_simp
          exact HK.out _ _ (by first | rfl | simp [trP1]) (Below.refl _ _)
      · intro vs W hall hBW
        have eo : vs 11 = .bool true := hall 11 (by decide)
        simp only [take_succ_cons, take_zero, List.drop_succ_cons, List.drop_zero, fillV, put_someT, put_noneC, setIfInBounds_toArray, set_cons_zero, set_cons_succ]
        rw [eo]
        generalize vs 0 = y0
        generalize vs 1 = y1
        generalize vs 2 = y2
        generalize vs 3 = y3
        generalize vs 4 = y4
        generalize vs 5 = y5
        generalize vs 6 = y6
        generalize vs 7 = y7
        generalize vs 8 = y8
        generalize vs 9 = y9
        generalize vs 10 = y10
        have BX := Lib.hid (BX2.out.trans (hBW.mono BX2.out.size))
        clear hall hBW eo
        go_wp2_with fail
        go_ret
        exact ⟨by simp, BZ.out.trans (BX.out.mono BZ.out.size)⟩
    · have BX2 := Lib.hid BX.out
      go_wp2_with fail
      refine wp_region_tail (PP := trP2 T rb N (U.heap.size + 1) b o c o0 S0 r0) 6 rfl (by kernel_rfl) (by kernel_rfl) (by decide) (by decide) (trP2_mono T rb N (U.heap.size + 1) b o c o0 S0 r0) (fun _ => undef) (by simp [fillV, put_someT, setIfInBounds_toArray, set_cons_zero, set_cons_succ]) ?_ ?_
      · intro i o vs W hi ho he hBW K hK
        simp only [take_succ_cons, take_zero, fillV, put_someT, setIfInBounds_toArray, set_cons_zero, set_cons_succ] at hK ⊢
        have BW := Lib.hid (BX2.out.trans (hBW.mono BX2.out.size))
        have AXW := Lib.hid (AX.out.then BW.out)
        have R6W := Lib.hid ((BW.out.cell (p := ⟨U.heap.size + 1, 6, none⟩) RXL.out).trans RX6.out)
        obtain rfl | rfl | rfl | rfl | rfl | rfl := (show i = 0 ∨ i = 1 ∨ i = 2 ∨ i = 3 ∨ i = 4 ∨ i = 5 by exact (by have : i < 6 := hi; omega))
        · simp only [getElem?_toArray, getElem?_cons_zero, getElem?_cons_succ, Option.some.injEq] at ho
          subst ho
          rw [if_pos (by rfl)]
          simp only [put_someT, setIfInBounds_toArray, set_cons_zero, set_cons_succ] at hK
          have HK := Lib.hid hK
          clear hK he hi hBW
          have a0 := AXW.out.2.1
          have a1 := AXW.out.2.2
          go_simp
          exact HK.out _ _ rfl (Below.refl _ _)
        · simp only [getElem?_toArray, getElem?_cons_zero, getElem?_cons_succ, Option.some.injEq] at ho
          subst ho
          rw [if_pos (by rfl)]
          simp only [put_someT, setIfInBounds_toArray, set_cons_zero, set_cons_succ] at hK
          have HK := Lib.hid hK
          clear hK he hi hBW
          go_simp
          exact HK.out _ _ (by first | rfl | simp [trP2]) (Below.refl _ _)
        · simp only [getElem?_toArray, getElem?_cons_zero, getElem?_cons_succ, Option.some.injEq] at ho
          subst ho
          have e1 : vs 1 = .pointer (some ⟨U.heap.size + 1, 6, none⟩) := (he ⟨1, .data⟩ (by simp) rfl : trP2 T rb N (U.heap.size + 1) b o c o0 S0 r0 1 (vs 1) W)
          rw [e1] at hK ⊢
          rw [if_pos (by rfl)]
          simp only [put_someT, setIfInBounds_toArray, set_cons_zero, set_cons_succ] at hK
          have HK := Lib.hid hK
          clear hK he hi hBW
          have cx := R6W.out
          go_simp
          exact HK.out _ _ rfl (Below.refl _ _)
        · simp only [getElem?_toArray, getElem?_cons_zero, getElem?_cons_succ, Option.some.injEq] at ho
          subst ho
          have e2 : vs 2 = .slice (some ⟨b, o, none⟩) 2 c := (he ⟨2, .data⟩ (by simp) rfl : trP2 T rb N (U.heap.size + 1) b o c o0 S0 r0 2 (vs 2) W)
          rw [e2] at hK ⊢
          rw [if_pos (by rfl)]
          simp only [put_someT, setIfInBounds_toArray, set_cons_zero, set_cons_succ] at hK
          have HK := Lib.hid hK
          clear hK he hi hBW
          go_simp
          exact HK.out _ _ (by rw [HO0.out]; rfl) (Below.refl _ _)
        · simp only [getElem?_toArray, getElem?_cons_zero, getElem?_cons_succ, Option.some.injEq] at ho
          subst ho
          have e3 : vs 3 = .pointer (some ⟨b, o0, none⟩) := (he ⟨3, .data⟩ (by simp) rfl : trP2 T rb N (U.heap.size + 1) b o c o0 S0 r0 3 (vs 3) W)
          rw [e3] at hK ⊢
          rw [if_pos (by rfl)]
          simp only [put_someT, setIfInBounds_toArray, set_cons_zero, set_cons_succ] at hK
          have HK := Lib.hid hK
          clear hK he hi hBW
          obtain ⟨d0, d1, d2, d3, d4, d5, d6⟩ := RC0.out W BW.out
          go_simp
          exact HK.out _ _ rfl (Below.refl _ _)
        · simp only [getElem?_toArray, getElem?_cons_zero, getElem?_cons_succ, Option.some.injEq] at ho
          subst ho
          have e0 : vs 0 = .agg #[.pointer (some ⟨T, 0, none⟩), .slice (some ⟨rb, 0, none⟩) N N] := (he ⟨0, .data⟩ (by simp) rfl : trP2 T rb N (U.heap.size + 1) b o c o0 S0 r0 0 (vs 0) W)
          rw [e0] at hK ⊢
          have e4 : vs 4 = .agg #[.int .u8 S0.kind, .string (bs S0.dep.name), .int .u8 S0.dep.op, .int .i64 S0.dep.evr.epoch, .string (bs S0.dep.evr.ver), .string (bs S0.dep.evr.rel), .slice S0.addr S0.args.length S0.cap] := (he ⟨4, .data⟩ (by simp) rfl : trP2 T rb N (U.heap.size + 1) b o c o0 S0 r0 4 (vs 4) W)
          rw [e4] at hK ⊢
          rw [if_pos (by rfl)]
          simp only [put_someT, setIfInBounds_toArray, set_cons_zero, set_cons_succ] at hK
          have HK := Lib.hid hK
          clear hK he hi hBW
          have ISW := IS0.out W BW.out
          go_simp
          go_at_call 95
          refine ISW.mono ?_
          rintro en w9 ⟨rfl, h⟩
          go_simp
          exact HK.out _ _ rfl h
      · intro vs W hall hBW
        have eo : vs 5 = .bool r0 := hall 5 (by decide)
        simp only [take_succ_cons, take_zero, List.drop_succ_cons, List.drop_zero, fillV, put_someT, put_noneC, setIfInBounds_toArray, set_cons_zero, set_cons_succ]
        rw [eo]
        generalize vs 0 = y0
        generalize vs 1 = y1
        generalize vs 2 = y2
        generalize vs 3 = y3
        generalize vs 4 = y4
        have BX := Lib.hid (BX2.out.trans (hBW.mono BX2.out.size))
        clear hall hBW eo
        go_wp2_with fail
        go_ret
        exact ⟨by simp, BZ.out.trans (BX.out.mono BZ.out.size)⟩
set_option maxRecDepth 100000 in
set_option maxHeartbeats 16000000 in
theorem iff3_any (R : RV) (hn : R.args.length = 3) (hR : ∀ a ∈ R.args, IsOk T X N L a) (rb : Nat) (f : Nat → Bool) (U : World) (hA : AskT T X N rb L f U) (hT : RTree U.heap.size U R) :
    Calls Tryz.prog 139 #[askW T rb N, R.val] U fun e w' => e = .returned (.bool (if Tr.sat N (pvL L) (R.args[1]'(by omega)).tree f then Tr.sat N (pvL L) (R.args[0]'(by omega)).tree f else Tr.sat N (pvL L) (R.args[2]'(by omega)).tree f)) ∧ Below U.heap.size U w' := by
  have b1 := (Below.refl U.heap.size U).alloc (Nat.le_refl _) (.cells #[.pointer (some ⟨T, 0, none⟩), .slice (some ⟨rb, 0, none⟩) N N] 145)
  have b2 := b1.alloc (by simp) (.cells #[.int .u8 R.kind, .string (bs R.dep.name), .int .u8 R.dep.op, .int .i64 R.dep.evr.epoch, .string (bs R.dep.evr.ver), .string (bs R.dep.evr.rel), .slice R.addr R.args.length R.cap] 39)
  have a1 := (ABox.new T rb N U 145).then ((Below.refl _ _).alloc (Nat.le_refl _) (.cells #[.int .u8 R.kind, .string (bs R.dep.name), .int .u8 R.dep.op, .int .i64 R.dep.evr.epoch, .string (bs R.dep.evr.ver), .string (bs R.dep.evr.rel), .slice R.addr R.args.length R.cap] 39))
  obtain ⟨b, o, hA0, _⟩ := (show RRow U.heap.size U R.addr R.cap R.args from ⟨hT.row, hT.sub⟩).at_ (k := 0) (by omega)
  have IS0 := Lib.hid (fun W' (hb : Below U.heap.size U W') => hR (R.args[0]'(by omega)) (List.getElem_mem _) rb f W' (hA.then hb) (((hT.sub _ (List.getElem_mem _)).keeps hb).more hb.size))
  have RC0 := Lib.hid (fun W' (hb : Below U.heap.size U W') => rrow_cells (((show RRow U.heap.size U R.addr R.cap R.args from ⟨hT.row, hT.sub⟩).below hb)) hA0 (k := 0) (by omega))
  obtain ⟨o0, ho0⟩ : ∃ o0, o0 = o + 0 * 7 := ⟨_, rfl⟩
  rw [← ho0] at RC0
  have HO0 := Lib.hid ho0
  have IS1 := Lib.hid (fun W' (hb : Below U.heap.size U W') => hR (R.args[1]'(by omega)) (List.getElem_mem _) rb f W' (hA.then hb) (((hT.sub _ (List.getElem_mem _)).keeps hb).more hb.size))
  have RC1 := Lib.hid (fun W' (hb : Below U.heap.size U W') => rrow_cells (((show RRow U.heap.size U R.addr R.cap R.args from ⟨hT.row, hT.sub⟩).below hb)) hA0 (k := 1) (by omega))
  obtain ⟨o1, ho1⟩ : ∃ o1, o1 = o + 1 * 7 := ⟨_, rfl⟩
  rw [← ho1] at RC1
  have HO1 := Lib.hid ho1
  have IS2 := Lib.hid (fun W' (hb : Below U.heap.size U W') => hR (R.args[2]'(by omega)) (List.getElem_mem _) rb f W' (hA.then hb) (((hT.sub _ (List.getElem_mem _)).keeps hb).more hb.size))
  have RC2 := Lib.hid (fun W' (hb : Below U.heap.size U W') => rrow_cells (((show RRow U.heap.size U R.addr R.cap R.args from ⟨hT.row, hT.sub⟩).below hb)) hA0 (k := 2) (by omega))
  obtain ⟨o2, ho2⟩ : ∃ o2, o2 = o + 2 * 7 := ⟨_, rfl⟩
  rw [← ho2] at RC2
  have HO2 := Lib.hid ho2
  unfold askW RV.val at IS0 IS1 IS2
  unfold askW RV.val
  clear hA hT hR b1
  generalize (R.args[0]'(by omega)) = S0 at *
  generalize Tr.sat N (pvL L) S0.tree f = r0 at *
  generalize (R.args[1]'(by omega)) = S1 at *
  generalize Tr.sat N (pvL L) S1.tree f = r1 at *
  generalize (R.args[2]'(by omega)) = S2 at *
  generalize Tr.sat N (pvL L) S2.tree f = r2 at *
  clear ho0 ho1 ho2
  rw [hA0] at a1 b2 ⊢
  rw [hn] at a1 b2 ⊢
  clear hn
  go_enter Tryz.func139, Tryz.ntmps139
  go_wp2_with fail
  obtain ⟨V, hV⟩ : ∃ V, V = (U.alloc (.cells #[.pointer (some ⟨T, 0, none⟩), .slice (some ⟨rb, 0, none⟩) N N] 145)).alloc (.cells #[.int .u8 R.kind, .string (bs R.dep.name), .int .u8 R.dep.op, .int .i64 R.dep.evr.epoch, .string (bs R.dep.evr.ver), .string (bs R.dep.evr.rel), .slice (some ⟨b, o, none⟩) 3 R.cap] 39) := ⟨_, rfl⟩
  have RX6 := Lib.hid (show V.cell? ⟨U.heap.size + 1, 6, none⟩ = some (.slice (some ⟨b, o, none⟩) 3 R.cap) by rw [hV]; simp [go_sem])
  have RXL := Lib.hid (show U.heap.size + 1 < V.heap.size by rw [hV]; simp)
  rw [← hV] at a1 b2 ⊢
  have AX := Lib.hid a1
  have BZ := Lib.hid b2
  clear hV a1 b2
  have RC2 := Lib.hid (fun W' (hb : Below V.heap.size V W') => RC2.out W' (BZ.out.trans (hb.mono BZ.out.size)))
  have IS2 := Lib.hid (fun W' (hb : Below V.heap.size V W') => IS2.out W' (BZ.out.trans (hb.mono BZ.out.size)))
  have RC1 := Lib.hid (fun W' (hb : Below V.heap.size V W') => RC1.out W' (BZ.out.trans (hb.mono BZ.out.size)))
  have IS1 := Lib.hid (fun W' (hb : Below V.heap.size V W') => IS1.out W' (BZ.out.trans (hb.mono BZ.out.size)))
  have RC0 := Lib.hid (fun W' (hb : Below V.heap.size V W') => RC0.out W' (BZ.out.trans (hb.mono BZ.out.size)))
  have IS0 := Lib.hid (fun W' (hb : Below V.heap.size V W') => IS0.out W' (BZ.out.trans (hb.mono BZ.out.size)))
  generalize R.cap = c at *
  have BV := Lib.hid (Below.refl V.heap.size V)
  refine wp_region_tail (PP := trP6 T rb N (U.heap.size + 1) b o c o1 S1 r1) 6 rfl (by kernel_rfl) (by kernel_rfl) (by decide) (by decide) (trP6_mono T rb N (U.heap.size + 1) b o c o1 S1 r1) (fun _ => undef) (by simp [fillV, put_someT, setIfInBounds_toArray, set_cons_zero, set_cons_succ]) ?_ ?_
  · intro i o vs W hi ho he hBW K hK
    simp only [take_succ_cons, take_zero, fillV, put_someT, setIfInBounds_toArray, set_cons_zero, set_cons_succ] at hK ⊢
    have BW := Lib.hid (BV.out.trans (hBW.mono BV.out.size))
    have AXW := Lib.hid (AX.out.then BW.out)
    have R6W := Lib.hid ((BW.out.cell (p := ⟨U.heap.size + 1, 6, none⟩) RXL.out).trans RX6.out)
    obtain rfl | rfl | rfl | rfl | rfl | rfl := (show i = 0 ∨ i = 1 ∨ i = 2 ∨ i = 3 ∨ i = 4 ∨ i = 5 by exact (by have : i < 6 := hi; omega))
    · simp only [getElem?_toArray, getElem?_cons_zero, getElem?_cons_succ, Option.some.injEq] at ho
      subst ho
      rw [if_pos (by rfl)]
      simp only [put_someT, setIfInBounds_toArray, set_cons_zero, set_cons_succ] at hK
      have HK := Lib.hid hK
      clear hK he hi hBW
      have a0 := AXW.out.2.1
      have a1 := AXW.out.2.2
      go_simp
      exact HK.out _ _ rfl (Below.refl _ _)
    · simp only [getElem?_toArray, getElem?_cons_zero, getElem?_cons_succ, Option.some.injEq] at ho
      subst ho
      rw [if_pos (by rfl)]
      simp only [put_someT, setIfInBounds_toArray, set_cons_zero, set_cons_succ] at hK
      have HK := Lib.hid hK
      clear hK he hi hBW
      go_simp
      exact HK.out _ _ (by first | rfl | simp [trP6]) (Below.refl _ _)
    · simp only [getElem?_toArray, getElem?_cons_zero, getElem?_cons_succ, Option.some.injEq] at ho
      subst ho
      have e1 : vs 1 = .pointer (some ⟨U.heap.size + 1, 6, none⟩) := (he ⟨1, .data⟩ (by simp) rfl : trP6 T rb N (U.heap.size + 1) b o c o1 S1 r1 1 (vs 1) W)
      rw [e1] at hK ⊢
      rw [if_pos (by rfl)]
      simp only [put_someT, setIfInBounds_toArray, set_cons_zero, set_cons_succ] at hK
      have HK := Lib.hid hK
      clear hK he hi hBW
      have cx := R6W.out
      go_simp
      exact HK.out _ _ rfl (Below.refl _ _)
    · simp only [getElem?_toArray, getElem?_cons_zero, getElem?_cons_succ, Option.some.injEq] at ho
      subst ho
      have e2 : vs 2 = .slice (some ⟨b, o, none⟩) 3 c := (he ⟨2, .data⟩ (by simp) rfl : trP6 T rb N (U.heap.size + 1) b o c o1 S1 r1 2 (vs 2) W)
      rw [e2] at hK ⊢
      rw [if_pos (by rfl)]
      simp only [put_someT, setIfInBounds_toArray, set_cons_zero, set_cons_succ] at hK
      have HK := Lib.hid hK
      clear hK he hi hBW
      go_simp
      exact HK.out _ _ (by rw [HO1.out]; rfl) (Below.refl _ _)
    · simp only [getElem?_toArray, getElem?_cons_zero, getElem?_cons_succ, Option.some.injEq] at ho
      subst ho
      have e3 : vs 3 = .pointer (some ⟨b, o1, none⟩) := (he ⟨3, .data⟩ (by simp) rfl : trP6 T rb N (U.heap.size + 1) b o c o1 S1 r1 3 (vs 3) W)
      rw [e3] at hK ⊢
      rw [if_pos (by rfl)]
      simp only [put_someT, setIfInBounds_toArray, set_cons_zero, set_cons_succ] at hK
      have HK := Lib.hid hK
      clear hK he hi hBW
      obtain ⟨d0, d1, d2, d3, d4, d5, d6⟩ := RC1.out W BW.out
      go_simp
      exact HK.out _ _ rfl (Below.refl _ _)
    · simp only [getElem?_toArray, getElem?_cons_zero, getElem?_cons_succ, Option.some.injEq] at ho
      subst ho
      have e0 : vs 0 = .agg #[.pointer (some ⟨T, 0, none⟩), .slice (some ⟨rb, 0, none⟩) N N] := (he ⟨0, .data⟩ (by simp) rfl : trP6 T rb N (U.heap.size + 1) b o c o1 S1 r1 0 (vs 0) W)
      rw [e0] at hK ⊢
      have e4 : vs 4 = .agg #[.int .u8 S1.kind, .string (bs S1.dep.name), .int .u8 S1.dep.op, .int .i64 S1.dep.evr.epoch, .string (bs S1.dep.evr.ver), .string (bs S1.dep.evr.rel), .slice S1.addr S1.args.length S1.cap] := (he ⟨4, .data⟩ (by simp) rfl : trP6 T rb N (U.heap.size + 1) b o c o1 S1 r1 4 (vs 4) W)
      rw [e4] at hK ⊢
      rw [if_pos (by rfl)]
      simp only [put_someT, setIfInBounds_toArray, set_cons_zero, set_cons_succ] at hK
      have HK := Lib.hid hK
      clear hK he hi hBW
      have ISW := IS1.out W BW.out
      go_simp
      go_at_call 95
      refine ISW.mono ?_
      rintro en w9 ⟨rfl, h⟩
      go_simp
      exact HK.out _ _ rfl h
  · intro vs W hall hBW
    have eo : vs 5 = .bool r1 := hall 5 (by decide)
    simp only [take_succ_cons, take_zero, List.drop_succ_cons, List.drop_zero, fillV, put_someT, put_noneC, setIfInBounds_toArray, set_cons_zero, set_cons_succ]
    rw [eo]
    generalize vs 0 = y0
    generalize vs 1 = y1
    generalize vs 2 = y2
    generalize vs 3 = y3
    generalize vs 4 = y4
    have BX := Lib.hid (BV.out.trans (hBW.mono BV.out.size))
    clear hall hBW eo
    cases r1
    · have BX2 := Lib.hid BX.out
      go_wp2_with fail
      refine wp_region_tail (PP := trP4 T rb N (U.heap.size + 1) b o c o2 S2 r2) 12 rfl (by kernel_rfl) (by kernel_rfl) (by decide) (by decide) (trP4_mono T rb N (U.heap.size + 1) b o c o2 S2 r2) (fun _ => undef) (by simp [fillV, put_someT, setIfInBounds_toArray, set_cons_zero, set_cons_succ]) ?_ ?_
      · intro i o vs W hi ho he hBW K hK
        simp only [take_succ_cons, take_zero, fillV, put_someT, setIfInBounds_toArray, set_cons_zero, set_cons_succ] at hK ⊢
        have BW := Lib.hid (BX2.out.trans (hBW.mono BX2.out.size))
        have AXW := Lib.hid (AX.out.then BW.out)
        have R6W := Lib.hid ((BW.out.cell (p := ⟨U.heap.size + 1, 6, none⟩) RXL.out).trans RX6.out)
        obtain rfl | rfl | rfl | rfl | rfl | rfl | rfl | rfl | rfl | rfl | rfl | rfl := (show i = 0 ∨ i = 1 ∨ i = 2 ∨ i = 3 ∨ i = 4 ∨ i = 5 ∨ i = 6 ∨ i = 7 ∨ i = 8 ∨ i = 9 ∨ i = 10 ∨ i = 11 by exact (by have : i < 12 := hi; omega))
        · simp only [getElem?_toArray, getElem?_cons_zero, getElem?_cons_succ, Option.some.injEq] at ho
          subst ho
          rw [if_pos (by rfl)]
          simp only [put_someT, setIfInBounds_toArray, set_cons_zero, set_cons_succ] at hK
          have HK := Lib.hid hK
          clear hK he hi hBW
          go_simp
          exact HK.out _ _ (by first | rfl | simp [trP4]) (Below.refl _ _)
        · simp only [getElem?_toArray, getElem?_cons_zero, getElem?_cons_succ, Option.some.injEq] at ho
          subst ho
          have e0 : vs 0 = .pointer (some ⟨U.heap.size + 1, 6, none⟩) := (he ⟨0, .data⟩ (by simp) rfl : trP4 T rb N (U.heap.size + 1) b o c o2 S2 r2 0 (vs 0) W)
          rw [e0] at hK ⊢
          rw [if_pos (by rfl)]
          simp only [put_someT, setIfInBounds_toArray, set_cons_zero, set_cons_succ] at hK
          have HK := Lib.hid hK
          clear hK he hi hBW
          have cx := R6W.out
          go_simp
          exact HK.out _ _ rfl (Below.refl _ _)
        · simp only [getElem?_toArray, getElem?_cons_zero, getElem?_cons_succ, Option.some.injEq] at ho
          subst ho
          have e1 : vs 1 = .slice (some ⟨b, o, none⟩) 3 c := (he ⟨1, .data⟩ (by simp) rfl : trP4 T rb N (U.heap.size + 1) b o c o2 S2 r2 1 (vs 1) W)
          rw [e1] at hK ⊢
          rw [if_pos (by rfl)]
          simp only [put_someT, setIfInBounds_toArray, set_cons_zero, set_cons_succ] at hK
          have HK := Lib.hid hK
          clear hK he hi hBW
          go_simp
          exact HK.out _ _ (by first | rfl | simp [trP4]) (Below.refl _ _)
        · simp only [getElem?_toArray, getElem?_cons_zero, getElem?_cons_succ, Option.some.injEq] at ho
          subst ho
          have e2 : vs 2 = .int .i64 3 := (he ⟨2, .data⟩ (by simp) rfl : trP4 T rb N (U.heap.size + 1) b o c o2 S2 r2 2 (vs 2) W)
          rw [e2] at hK ⊢
          rw [if_pos (by rfl)]
          simp only [put_someT, setIfInBounds_toArray, set_cons_zero, set_cons_succ] at hK
          have HK := Lib.hid hK
          clear hK he hi hBW
          go_simp
          exact HK.out _ _ (by first | rfl | simp [trP4]) (Below.refl _ _)
        · simp only [getElem?_toArray, getElem?_cons_zero, getElem?_cons_succ, Option.some.injEq] at ho
          subst ho
          have e3 : vs 3 = .bool false := (he ⟨3, .data⟩ (by simp) rfl : trP4 T rb N (U.heap.size + 1) b o c o2 S2 r2 3 (vs 3) W)
          rw [e3] at hK ⊢
          rw [if_pos (by rfl)]
          simp only [put_someT, setIfInBounds_toArray, set_cons_zero, set_cons_succ] at hK
          have HK := Lib.hid hK
          clear hK he hi hBW
          go_simp
          exact HK.out _ _ (by first | rfl | simp [trP4]) (Below.refl _ _)
        · simp only [getElem?_toArray, getElem?_cons_zero, getElem?_cons_succ, Option.some.injEq] at ho
          subst ho
          have e4 : vs 4 = .bool false := (he ⟨4, .guard⟩ (by simp) rfl : trP4 T rb N (U.heap.size + 1) b o c o2 S2 r2 4 (vs 4) W)
          rw [e4] at hK ⊢
          rw [if_pos (by rfl)]
          simp only [put_someT, setIfInBounds_toArray, set_cons_zero, set_cons_succ] at hK
          have HK := Lib.hid hK
          clear hK he hi hBW
          have a0 := AXW.out.2.1
          have a1 := AXW.out.2.2
          go_simp
          exact HK.out _ _ rfl (Below.refl _ _)
        · simp only [getElem?_toArray, getElem?_cons_zero, getElem?_cons_succ, Option.some.injEq] at ho
          subst ho
          have e4 : vs 4 = .bool false := (he ⟨4, .guard⟩ (by simp) rfl : trP4 T rb N (U.heap.size + 1) b o c o2 S2 r2 4 (vs 4) W)
          rw [e4] at hK ⊢
          rw [if_pos (by rfl)]
          simp only [put_someT, setIfInBounds_toArray, set_cons_zero, set_cons_succ] at hK
          have HK := Lib.hid hK
          clear hK he hi hBW
          go_simp
          exact HK.out _ _ (by first | rfl | simp [trP4]) (Below.refl _ _)
        · simp only [getElem?_toArray, getElem?_cons_zero, getElem?_cons_succ, Option.some.injEq] at ho
          subst ho
          have e6 : vs 6 = .pointer (some ⟨U.heap.size + 1, 6, none⟩) := (he ⟨6, .data⟩ (by simp) rfl : trP4 T rb N (U.heap.size + 1) b o c o2 S2 r2 6 (vs 6) W)
          rw [e6] at hK ⊢
          have e4 : vs 4 = .bool false := (he ⟨4, .guard⟩ (by simp) rfl : trP4 T rb N (U.heap.size + 1) b o c o2 S2 r2 4 (vs 4) W)
          rw [e4] at hK ⊢
          rw [if_pos (by rfl)]
          simp only [put_someT, setIfInBounds_toArray, set_cons_zero, set_cons_succ] at hK
          have HK := Lib.hid hK
          clear hK he hi hBW
          have cx := R6W.out
          go_simp
          exact HK.out _ _ rfl (Below.refl _ _)
        · simp only [getElem?_toArray, getElem?_cons_zero, getElem?_cons_succ, Option.some.injEq] at ho
          subst ho
          have e7 : vs 7 = .slice (some ⟨b, o, none⟩) 3 c := (he ⟨7, .data⟩ (by simp) rfl : trP4 T rb N (U.heap.size + 1) b o c o2 S2 r2 7 (vs 7) W)
          rw [e7] at hK ⊢
          have e4 : vs 4 = .bool false := (he ⟨4, .guard⟩ (by simp) rfl : trP4 T rb N (U.heap.size + 1) b o c o2 S2 r2 4 (vs 4) W)
          rw [e4] at hK ⊢
          rw [if_pos (by rfl)]
          simp only [put_someT, setIfInBounds_toArray, set_cons_zero, set_cons_succ] at hK
          have HK := Lib.hid hK
          clear hK he hi hBW
          go_simp
          exact HK.out _ _ (by rw [HO2.out]; rfl) (Below.refl _ _)
        · simp only [getElem?_toArray, getElem?_cons_zero, getElem?_cons_succ, Option.some.injEq] at ho
          subst ho
          have e8 : vs 8 = .pointer (some ⟨b, o2, none⟩) := (he ⟨8, .data⟩ (by simp) rfl : trP4 T rb N (U.heap.size + 1) b o c o2 S2 r2 8 (vs 8) W)
          rw [e8] at hK ⊢
          have e4 : vs 4 = .bool false := (he ⟨4, .guard⟩ (by simp) rfl : trP4 T rb N (U.heap.size + 1) b o c o2 S2 r2 4 (vs 4) W)
          rw [e4] at hK ⊢
          rw [if_pos (by rfl)]
          simp only [put_someT, setIfInBounds_toArray, set_cons_zero, set_cons_succ] at hK
          have HK := Lib.hid hK
          clear hK he hi hBW
          obtain ⟨d0, d1, d2, d3, d4, d5, d6⟩ := RC2.out W BW.out
          go_simp
          exact HK.out _ _ rfl (Below.refl _ _)
        · simp only [getElem?_toArray, getElem?_cons_zero, getElem?_cons_succ, Option.some.injEq] at ho
          subst ho
          have e5 : vs 5 = .agg #[.pointer (some ⟨T, 0, none⟩), .slice (some ⟨rb, 0, none⟩) N N] := (he ⟨5, .data⟩ (by simp) rfl : trP4 T rb N (U.heap.size + 1) b o c o2 S2 r2 5 (vs 5) W)
          rw [e5] at hK ⊢
          have e9 : vs 9 = .agg #[.int .u8 S2.kind, .string (bs S2.dep.name), .int .u8 S2.dep.op, .int .i64 S2.dep.evr.epoch, .string (bs S2.dep.evr.ver), .string (bs S2.dep.evr.rel), .slice S2.addr S2.args.length S2.cap] := (he ⟨9, .data⟩ (by simp) rfl : trP4 T rb N (U.heap.size + 1) b o c o2 S2 r2 9 (vs 9) W)
          rw [e9] at hK ⊢
          have e4 : vs 4 = .bool false := (he ⟨4, .guard⟩ (by simp) rfl : trP4 T rb N (U.heap.size + 1) b o c o2 S2 r2 4 (vs 4) W)
          rw [e4] at hK ⊢
          rw [if_pos (by rfl)]
          simp only [put_someT, setIfInBounds_toArray, set_cons_zero, set_cons_succ] at hK
          have HK := Lib.hid hK
          clear hK he hi hBW
          have ISW := IS2.out W BW.out
          go_simp
          go_at_call 95
          refine ISW.mono ?_
          rintro en w9 ⟨rfl, h⟩
          go_simp
          exact HK.out _ _ rfl h
        · simp only [getElem?_toArray, getElem?_cons_zero, getElem?_cons_succ, Option.some.injEq] at ho
          subst ho
          have e4 : vs 4 = .bool false := (he ⟨4, .data⟩ (by simp) rfl : trP4 T rb N (U.heap.size + 1) b o c o2 S2 r2 4 (vs 4) W)
          rw [e4] at hK ⊢
          have e10 : vs 10 = .bool r2 := (he ⟨10, .data⟩ (by simp) rfl : trP4 T rb N (U.heap.size + 1) b o c o2 S2 r2 10 (vs 10) W)
          rw [e10] at hK ⊢
          rw [if_pos (by rfl)]
          simp only [put_someT, setIfInBounds_toArray, set_cons_zero, set_cons_succ] at hK
          have HK := Lib.hid hK
          clear hK he hi hBW
          go_simp
          exact HK.out _ _ (by first | rfl | simp [trP4]) (Below.refl _ _)
      · intro vs W hall hBW
        have eo : vs 11 = .bool r2 := hall 11 (by decide)
        simp only [take_succ_cons, take_zero, List.drop_succ_cons, List.drop_zero, fillV, put_someT, put_noneC, setIfInBounds_toArray, set_cons_zero, set_cons_succ]
        rw [eo]
        generalize vs 0 = y0
        generalize vs 1 = y1
        generalize vs 2 = y2
        generalize vs 3 = y3
        generalize vs 4 = y4
        generalize vs 5 = y5
        generalize vs 6 = y6
        generalize vs 7 = y7
        generalize vs 8 = y8
        generalize vs 9 = y9
        generalize vs 10 = y10
        have BX := Lib.hid (BX2.out.trans (hBW.mono BX2.out.size))
        clear hall hBW eo
        go_wp2_with fail
        go_ret
        exact ⟨by simp, BZ.out.trans (BX.out.mono BZ.out.size)⟩
    · have BX2 := Lib.hid BX.out
      go_wp2_with fail
      refine wp_region_tail (PP := trP5 T rb N (U.heap.size + 1) b o c o0 S0 r0) 6 rfl (by kernel_rfl) (by kernel_rfl) (by decide) (by decide) (trP5_mono T rb N (U.heap.size + 1) b o c o0 S0 r0) (fun _ => undef) (by simp [fillV, put_someT, setIfInBounds_toArray, set_cons_zero, set_cons_succ]) ?_ ?_
      · intro i o vs W hi ho he hBW K hK
        simp only [take_succ_cons, take_zero, fillV, put_someT, setIfInBounds_toArray, set_cons_zero, set_cons_succ] at hK ⊢
        have BW := Lib.hid (BX2.out.trans (hBW.mono BX2.out.size))
        have AXW := Lib.hid (AX.out.then BW.out)
        have R6W := Lib.hid ((BW.out.cell (p := ⟨U.heap.size + 1, 6, none⟩) RXL.out).trans RX6.out)
        obtain rfl | rfl | rfl | rfl | rfl | rfl := (show i = 0 ∨ i = 1 ∨ i = 2 ∨ i = 3 ∨ i = 4 ∨ i = 5 by exact (by have : i < 6 := hi; omega))
        · simp only [getElem?_toArray, getElem?_cons_zero, getElem?_cons_succ, Option.some.injEq] at ho
          subst ho
          rw [if_pos (by rfl)]
          simp only [put_someT, setIfInBounds_toArray, set_cons_zero, set_cons_succ] at hK
          have HK := Lib.hid hK
          clear hK he hi hBW
          have a0 := AXW.out.2.1
          have a1 := AXW.out.2.2
          go_simp
          exact HK.out _ _ rfl (Below.refl _ _)
        · simp only [getElem?_toArray, getElem?_cons_zero, getElem?_cons_succ, Option.some.injEq] at ho
          subst ho
          rw [if_pos (by rfl)]
          simp only [put_someT, setIfInBounds_toArray, set_cons_zero, set_cons_succ] at hK
          have HK := Lib.hid hK
          clear hK he hi hBW
          go_simp
          exact HK.out _ _ (by first | rfl | simp [trP5]) (Below.refl _ _)
        · simp only [getElem?_toArray, getElem?_cons_zero, getElem?_cons_succ, Option.some.injEq] at ho
          subst ho
          have e1 : vs 1 = .pointer (some ⟨U.heap.size + 1, 6, none⟩) := (he ⟨1, .data⟩ (by simp) rfl : trP5 T rb N (U.heap.size + 1) b o c o0 S0 r0 1 (vs 1) W)
          rw [e1] at hK ⊢
          rw [if_pos (by rfl)]
          simp only [put_someT, setIfInBounds_toArray, set_cons_zero, set_cons_succ] at hK
          have HK := Lib.hid hK
          clear hK he hi hBW
          have cx := R6W.out
          go_simp
          exact HK.out _ _ rfl (Below.refl _ _)
        · simp only [getElem?_toArray, getElem?_cons_zero, getElem?_cons_succ, Option.some.injEq] at ho
          subst ho
          have e2 : vs 2 = .slice (some ⟨b, o, none⟩) 3 c := (he ⟨2, .data⟩ (by simp) rfl : trP5 T rb N (U.heap.size + 1) b o c o0 S0 r0 2 (vs 2) W)
          rw [e2] at hK ⊢
          rw [if_pos (by rfl)]
          simp only [put_someT, setIfInBounds_toArray, set_cons_zero, set_cons_succ] at hK
          have HK := Lib.hid hK
          clear hK he hi hBW
          go_simp
          exact HK.out _ _ (by rw [HO0.out]; rfl) (Below.refl _ _)
        · simp only [getElem?_toArray, getElem?_cons_zero, getElem?_cons_succ, Option.some.injEq] at ho
          subst ho
          have e3 : vs 3 = .pointer (some ⟨b, o0, none⟩) := (he ⟨3, .data⟩ (by simp) rfl : trP5 T rb N (U.heap.size + 1) b o c o0 S0 r0 3 (vs 3) W)
          rw [e3] at hK ⊢
          rw [if_pos (by rfl)]
          simp only [put_someT, setIfInBounds_toArray, set_cons_zero, set_cons_succ] at hK
          have HK := Lib.hid hK
          clear hK he hi hBW
          obtain ⟨d0, d1, d2, d3, d4, d5, d6⟩ := RC0.out W BW.out
          go_simp
          exact HK.out _ _ rfl (Below.refl _ _)
        · simp only [getElem?_toArray, getElem?_cons_zero, getElem?_cons_succ, Option.some.injEq] at ho
          subst ho
          have e0 : vs 0 = .agg #[.pointer (some ⟨T, 0, none⟩), .slice (some ⟨rb, 0, none⟩) N N] := (he ⟨0, .data⟩ (by simp) rfl : trP5 T rb N (U.heap.size + 1) b o c o0 S0 r0 0 (vs 0) W)
          rw [e0] at hK ⊢
          have e4 : vs 4 = .agg #[.int .u8 S0.kind, .string (bs S0.dep.name), .int .u8 S0.dep.op, .int .i64 S0.dep.evr.epoch, .string (bs S0.dep.evr.ver), .string (bs S0.dep.evr.rel), .slice S0.addr S0.args.length S0.cap] := (he ⟨4, .data⟩ (by simp) rfl : trP5 T rb N (U.heap.size + 1) b o c o0 S0 r0 4 (vs 4) W)
          rw [e4] at hK ⊢
          rw [if_pos (by rfl)]
          simp only [put_someT, setIfInBounds_toArray, set_cons_zero, set_cons_succ] at hK
          have HK := Lib.hid hK
          clear hK he hi hBW
          have ISW := IS0.out W BW.out
          go_simp
          go_at_call 95
          refine ISW.mono ?_
          rintro en w9 ⟨rfl, h⟩
          go_simp
          exact HK.out _ _ rfl h
      · intro vs W hall hBW
        have eo : vs 5 = .bool r0 := hall 5 (by decide)
        simp only [take_succ_cons, take_zero, List.drop_succ_cons, List.drop_zero, fillV, put_someT, put_noneC, setIfInBounds_toArray, set_cons_zero, set_cons_succ]
        rw [eo]
        generalize vs 0 = y0
        generalize vs 1 = y1
        generalize vs 2 = y2
        generalize vs 3 = y3
        generalize vs 4 = y4
        have BX := Lib.hid (BX2.out.trans (hBW.mono BX2.out.size))
        clear hall hBW eo
        go_wp2_with fail
        go_ret
        exact ⟨by simp, BZ.out.trans (BX.out.mono BZ.out.size)⟩
set_option maxRecDepth 100000 in
set_option maxHeartbeats 16000000 in
theorem unless2_any (R : RV) (hn : R.args.length = 2) (hR : ∀ a ∈ R.args, IsOk T X N L a) (rb : Nat) (f : Nat → Bool) (U : World) (hA : AskT T X N rb L f U) (hT : RTree U.heap.size U R) :
    Calls Tryz.prog 140 #[askW T rb N, R.val] U fun e w' => e = .returned (.bool (if Tr.sat N (pvL L) (R.args[1]'(by omega)).tree f then false else Tr.sat N (pvL L) (R.args[0]'(by omega)).tree f)) ∧ Below U.heap.size U w' := by
  have b1 := (Below.refl U.heap.size U).alloc (Nat.le_refl _) (.cells #[.pointer (some ⟨T, 0, none⟩), .slice (some ⟨rb, 0, none⟩) N N] 145)
  have b2 := b1.alloc (by simp) (.cells #[.int .u8 R.kind, .string (bs R.dep.name), .int .u8 R.dep.op, .int .i64 R.dep.evr.epoch, .string (bs R.dep.evr.ver), .string (bs R.dep.evr.rel), .slice R.addr R.args.length R.cap] 39)
  have a1 := (ABox.new T rb N U 145).then ((Below.refl _ _).alloc (Nat.le_refl _) (.cells #[.int .u8 R.kind, .string (bs R.dep.name), .int .u8 R.dep.op, .int .i64 R.dep.evr.epoch, .string (bs R.dep.evr.ver), .string (bs R.dep.evr.rel), .slice R.addr R.args.length R.cap] 39))
  obtain ⟨b, o, hA0, _⟩ := (show RRow U.heap.size U R.addr R.cap R.args from ⟨hT.row, hT.sub⟩).at_ (k := 0) (by omega)
  have IS0 := Lib.hid (fun W' (hb : Below U.heap.size U W') => hR (R.args[0]'(by omega)) (List.getElem_mem _) rb f W' (hA.then hb) (((hT.sub _ (List.getElem_mem _)).keeps hb).more hb.size))
  have RC0 := Lib.hid (fun W' (hb : Below U.heap.size U W') => rrow_cells (((show RRow U.heap.size U R.addr R.cap R.args from ⟨hT.row, hT.sub⟩).below hb)) hA0 (k := 0) (by omega))
  obtain ⟨o0, ho0⟩ : ∃ o0, o0 = o + 0 * 7 := ⟨_, rfl⟩
  rw [← ho0] at RC0
  have HO0 := Lib.hid ho0
  have IS1 := Lib.hid (fun W' (hb : Below U.heap.size U W') => hR (R.args[1]'(by omega)) (List.getElem_mem _) rb f W' (hA.then hb) (((hT.sub _ (List.getElem_mem _)).keeps hb).more hb.size))
  have RC1 := Lib.hid (fun W' (hb : Below U.heap.size U W') => rrow_cells (((show RRow U.heap.size U R.addr R.cap R.args from ⟨hT.row, hT.sub⟩).below hb)) hA0 (k := 1) (by omega))
  obtain ⟨o1, ho1⟩ : ∃ o1, o1 = o + 1 * 7 := ⟨_, rfl⟩
  rw [← ho1] at RC1
  have HO1 := Lib.hid ho1
  unfold askW RV.val at IS0 IS1
  unfold askW RV.val
  clear hA hT hR b1
  generalize (R.args[0]'(by omega)) = S0 at *
  generalize Tr.sat N (pvL L) S0.tree f = r0 at *
  generalize (R.args[1]'(by omega)) = S1 at *
  generalize Tr.sat N (pvL L) S1.tree f = r1 at *
  clear ho0 ho1
  rw [hA0] at a1 b2 ⊢
  rw [hn] at a1 b2 ⊢
  clear hn
  go_enter Tryz.func140, Tryz.ntmps140
  go_wp2_with fail
  obtain ⟨V, hV⟩ : ∃ V, V = (U.alloc (.cells #[.pointer (some ⟨T, 0, none⟩), .slice (some ⟨rb, 0, none⟩) N N] 145)).alloc (.cells #[.int .u8 R.kind, .string (bs R.dep.name), .int .u8 R.dep.op, .int .i64 R.dep.evr.epoch, .string (bs R.dep.evr.ver), .string (bs R.dep.evr.rel), .slice (some ⟨b, o, none⟩) 2 R.cap] 39) := ⟨_, rfl⟩
  have RX6 := Lib.hid (show V.cell? ⟨U.heap.size + 1, 6, none⟩ = some (.slice (some ⟨b, o, none⟩) 2 R.cap) by rw [hV]; simp [go_sem])
  have RXL := Lib.hid (show U.heap.size + 1 < V.heap.size by rw [hV]; simp)
  rw [← hV] at a1 b2 ⊢
  have AX := Lib.hid a1
  have BZ := Lib.hid b2
  clear hV a1 b2
  have RC1 := Lib.hid (fun W' (hb : Below V.heap.size V W') => RC1.out W' (BZ.out.trans (hb.mono BZ.out.size)))
  have IS1 := Lib.hid (fun W' (hb : Below V.heap.size V W') => IS1.out W' (BZ.out.trans (hb.mono BZ.out.size)))
  have RC0 := Lib.hid (fun W' (hb : Below V.heap.size V W') => RC0.out W' (BZ.out.trans (hb.mono BZ.out.size)))
  have IS0 := Lib.hid (fun W' (hb : Below V.heap.size V W') => IS0.out W' (BZ.out.trans (hb.mono BZ.out.size)))
  generalize R.cap = c at *
  have BV := Lib.hid (Below.refl V.heap.size V)
  refine wp_region_tail (PP := trP9 T rb N (U.heap.size + 1) b o c o1 S1 r1) 6 rfl (by kernel_rfl) (by kernel_rfl) (by decide) (by decide) (trP9_mono T rb N (U.heap.size + 1) b o c o1 S1 r1) (fun _ => undef) (by simp [fillV, put_someT, setIfInBounds_toArray, set_cons_zero, set_cons_succ]) ?_ ?_
  · intro i o vs W hi ho he hBW K hK
    simp only [take_succ_cons, take_zero, fillV, put_someT, setIfInBounds_toArray, set_cons_zero, set_cons_succ] at hK ⊢
    have BW := Lib.hid (BV.out.trans (hBW.mono BV.out.size))
    have AXW := Lib.hid (AX.out.then BW.out)
    have R6W := Lib.hid ((BW.out.cell (p := ⟨U.heap.size + 1, 6, none⟩) RXL.out).trans RX6.out)
    obtain rfl | rfl | rfl | rfl | rfl | rfl := (show i = 0 ∨ i = 1 ∨ i = 2 ∨ i = 3 ∨ i = 4 ∨ i = 5 by exact (by have : i < 6 := hi; omega))
    · simp only [getElem?_toArray, getElem?_cons_zero, getElem?_cons_succ, Option.some.injEq] at ho
      subst ho
      rw [if_pos (by rfl)]
      simp only [put_someT, setIfInBounds_toArray, set_cons_zero, set_cons_succ] at hK
      have HK := Lib.hid hK
      clear hK he hi hBW
      have a0 := AXW.out.2.1
      have a1 := AXW.out.2.2
      go_simp
      exact HK.out _ _ rfl (Below.refl _ _)
    · simp only [getElem?_toArray, getElem?_cons_zero, getElem?_cons_succ, Option.some.injEq] at ho
      subst ho
      rw [if_pos (by rfl)]
      simp only [put_someT, setIfInBounds_toArray, set_cons_zero, set_cons_succ] at hK
      have HK := Lib.hid hK
      clear hK he hi hBW
      go_simp
      exact HK.out _ _ (by first | rfl | simp [trP9]) (Below.refl _ _)
    · simp only [getElem?_toArray, getElem?_cons_zero, getElem?_cons_succ, Option.some.injEq] at ho
      subst ho
      have e1 : vs 1 = .pointer (some ⟨U.heap.size + 1, 6, none⟩) := (he ⟨1, .data⟩ (by simp) rfl : trP9 T rb N (U.heap.size + 1) b o c o1 S1 r1 1 (vs 1) W)
      rw [e1] at hK ⊢
      rw [if_pos (by rfl)]
      simp only [put_someT, setIfInBounds_toArray, set_cons_zero, set_cons_succ] at hK
      have HK := Lib.hid hK
      clear hK he hi hBW
      have cx := R6W.out
      go_simp
      exact HK.out _ _ rfl (Below.refl _ _)
    · simp only [getElem?_toArray, getElem?_cons_zero, getElem?_cons_succ, Option.some.injEq] at ho
      subst ho
      have e2 : vs 2 = .slice (some ⟨b, o, none⟩) 2 c := (he ⟨2, .data⟩ (by simp) rfl : trP9 T rb N (U.heap.size + 1) b o c o1 S1 r1 2 (vs 2) W)
      rw [e2] at hK ⊢
      rw [if_pos (by rfl)]
      simp only [put_someT, setIfInBounds_toArray, set_cons_zero, set_cons_succ] at hK
      have HK := Lib.hid hK
      clear hK he hi hBW
      go_simp
      exact HK.out _ _ (by rw [HO1.out]; rfl) (Below.refl _ _)
    · simp only [getElem?_toArray, getElem?_cons_zero, getElem?_cons_succ, Option.some.injEq] at ho
      subst ho
      have e3 : vs 3 = .pointer (some ⟨b, o1, none⟩) := (he ⟨3, .data⟩ (by simp) rfl : trP9 T rb N (U.heap.size + 1) b o c o1 S1 r1 3 (vs 3) W)
      rw [e3] at hK ⊢
      rw [if_pos (by rfl)]
      simp only [put_someT, setIfInBounds_toArray, set_cons_zero, set_cons_succ] at hK
      have HK := Lib.hid hK
      clear hK he hi hBW
      obtain ⟨d0, d1, d2, d3, d4, d5, d6⟩ := RC1.out W BW.out
      go_simp
      exact HK.out _ _ rfl (Below.refl _ _)
    · simp only [getElem?_toArray, getElem?_cons_zero, getElem?_cons_succ, Option.some.injEq] at ho
      subst ho
      have e0 : vs 0 = .agg #[.pointer (some ⟨T, 0, none⟩), .slice (some ⟨rb, 0, none⟩) N N] := (he ⟨0, .data⟩ (by simp) rfl : trP9 T rb N (U.heap.size + 1) b o c o1 S1 r1 0 (vs 0) W)
      rw [e0] at hK ⊢
      have e4 : vs 4 = .agg #[.int .u8 S1.kind, .string (bs S1.dep.name), .int .u8 S1.dep.op, .int .i64 S1.dep.evr.epoch, .string (bs S1.dep.evr.ver), .string (bs S1.dep.evr.rel), .slice S1.addr S1.args.length S1.cap] := (he ⟨4, .data⟩ (by simp) rfl : trP9 T rb N (U.heap.size + 1) b o c o1 S1 r1 4 (vs 4) W)
      rw [e4] at hK ⊢
      rw [if_pos (by rfl)]
      simp only [put_someT, setIfInBounds_toArray, set_cons_zero, set_cons_succ] at hK
      have HK := Lib.hid hK
      clear hK he hi hBW
      have ISW := IS1.out W BW.out
      go_simp
      go_at_call 95
      refine ISW.mono ?_
      rintro en w9 ⟨rfl, h⟩
      go_simp
      exact HK.out _ _ rfl h
  · intro vs W hall hBW
    have eo : vs 5 = .bool r1 := hall 5 (by decide)
    simp only [take_succ_cons, take_zero, List.drop_succ_cons, List.drop_zero, fillV, put_someT, put_noneC, setIfInBounds_toArray, set_cons_zero, set_cons_succ]
    rw [eo]
    generalize vs 0 = y0
    generalize vs 1 = y1
    generalize vs 2 = y2
    generalize vs 3 = y3
    generalize vs 4 = y4
    have BX := Lib.hid (BV.out.trans (hBW.mono BV.out.size))
    clear hall hBW eo
    cases r1
    · have BX2 := Lib.hid BX.out
      go_wp2_with fail
      refine wp_region_tail (PP := trP8 T rb N (U.heap.size + 1) b o c o0 S0 r0) 6 rfl (by kernel_rfl) (by kernel_rfl) (by decide) (by decide) (trP8_mono T rb N (U.heap.size + 1) b o c o0 S0 r0) (fun _ => undef) (by simp [fillV, put_someT, setIfInBounds_toArray, set_cons_zero, set_cons_succ]) ?_ ?_
      · intro i o vs W hi ho he hBW K hK
        simp only [take_succ_cons, take_zero, fillV, put_someT, setIfInBounds_toArray, set_cons_zero, set_cons_succ] at hK ⊢
        have BW := Lib.hid (BX2.out.trans (hBW.mono BX2.out.size))
        have AXW := Lib.hid (AX.out.then BW.out)
        have R6W := Lib.hid ((BW.out.cell (p := ⟨U.heap.size + 1, 6, none⟩) RXL.out).trans RX6.out)
        obtain rfl | rfl | rfl | rfl | rfl | rfl := (show i = 0 ∨ i = 1 ∨ i = 2 ∨ i = 3 ∨ i = 4 ∨ i = 5 by exact (by have : i < 6 := hi; omega))
        · simp only [getElem?_toArray, getElem?_cons_zero, getElem?_cons_succ, Option.some.injEq] at ho
          subst ho
          rw [if_pos (by rfl)]
          simp only [put_someT, setIfInBounds_toArray, set_cons_zero, set_cons_succ] at hK
          have HK := Lib.hid hK
          clear hK he hi hBW
          have a0 := AXW.out.2.1
          have a1 := AXW.out.2.2
          go_simp
          exact HK.out _ _ rfl (Below.refl _ _)
        · simp only [getElem?_toArray, getElem?_cons_zero, getElem?_cons_succ, Option.some.injEq] at ho
          subst ho
          rw [if_pos (by rfl)]
          simp only [put_someT, setIfInBounds_toArray, set_cons_zero, set_cons_succ] at hK
          have HK := Lib.hid hK
          clear hK he hi hBW
          go_simp
          exact HK.out _ _ (by first | rfl | simp [trP8]) (Below.refl _ _)
        · simp only [getElem?_toArray, getElem?_cons_zero, getElem?_cons_succ, Option.some.injEq] at ho
          subst ho
          have e1 : vs 1 = .pointer (some ⟨U.heap.size + 1, 6, none⟩) := (he ⟨1, .data⟩ (by simp) rfl : trP8 T rb N (U.heap.size + 1) b o c o0 S0 r0 1 (vs 1) W)
          rw [e1] at hK ⊢
          rw [if_pos (by rfl)]
          simp only [put_someT, setIfInBounds_toArray, set_cons_zero, set_cons_succ] at hK
          have HK := Lib.hid hK
          clear hK he hi hBW
          have cx := R6W.out
          go_simp
          exact HK.out _ _ rfl (Below.refl _ _)
        · simp only [getElem?_toArray, getElem?_cons_zero, getElem?_cons_succ, Option.some.injEq] at ho
          subst ho
          have e2 : vs 2 = .slice (some ⟨b, o, none⟩) 2 c := (he ⟨2, .data⟩ (by simp) rfl : trP8 T rb N (U.heap.size + 1) b o c o0 S0 r0 2 (vs 2) W)
          rw [e2] at hK ⊢
          rw [if_pos (by rfl)]
          simp only [put_someT, setIfInBounds_toArray, set_cons_zero, set_cons_succ] at hK
          have HK := Lib.hid hK
          clear hK he hi hBW
          go_simp
          exact HK.out _ _ (by rw [HO0.out]; rfl) (Below.refl _ _)
        · simp only [getElem?_toArray, getElem?_cons_zero, getElem?_cons_succ, Option.some.injEq] at ho
          subst ho
          have e3 : vs 3 = .pointer (some ⟨b, o0, none⟩) := (he ⟨3, .data⟩ (by simp) rfl : trP8 T rb N (U.heap.size + 1) b o c o0 S0 r0 3 (vs 3) W)
          rw [e3] at hK ⊢
          rw [if_pos (by rfl)]
          simp only [put_someT, setIfInBounds_toArray, set_cons_zero, set_cons_succ] at hK
          have HK := Lib.hid hK
          clear hK he hi hBW
          obtain ⟨d0, d1, d2, d3, d4, d5, d6⟩ := RC0.out W BW.out
          go_simp
          exact HK.out _ _ rfl (Below.refl _ _)
        · simp only [getElem?_toArray, getElem?_cons_zero, getElem?_cons_succ, Option.some.injEq] at ho
          subst ho
          have e0 : vs 0 = .agg #[.pointer (some ⟨T, 0, none⟩), .slice (some ⟨rb, 0, none⟩) N N] := (he ⟨0, .data⟩ (by simp) rfl : trP8 T rb N (U.heap.size + 1) b o c o0 S0 r0 0 (vs 0) W)
          rw [e0] at hK ⊢
          have e4 : vs 4 = .agg #[.int .u8 S0.kind, .string (bs S0.dep.name), .int .u8 S0.dep.op, .int .i64 S0.dep.evr.epoch, .string (bs S0.dep.evr.ver), .string (bs S0.dep.evr.rel), .slice S0.addr S0.args.length S0.cap] := (he ⟨4, .data⟩ (by simp) rfl : trP8 T rb N (U.heap.size + 1) b o c o0 S0 r0 4 (vs 4) W)
          rw [e4] at hK ⊢
          rw [if_pos (by rfl)]
          simp only [put_someT, setIfInBounds_toArray, set_cons_zero, set_cons_succ] at hK
          have HK := Lib.hid hK
          clear hK he hi hBW
          have ISW := IS0.out W BW.out
          go_simp
          go_at_call 95
          refine ISW.mono ?_
          rintro en w9 ⟨rfl, h⟩
          go_simp
          exact HK.out _ _ rfl h
      · intro vs W hall hBW
        have eo : vs 5 = .bool r0 := hall 5 (by decide)
        simp only [take_succ_cons, take_zero, List.drop_succ_cons, List.drop_zero, fillV, put_someT, put_noneC, setIfInBounds_toArray, set_cons_zero, set_cons_succ]
        rw [eo]
        generalize vs 0 = y0
        generalize vs 1 = y1
        generalize vs 2 = y2
        generalize vs 3 = y3
        generalize vs 4 = y4
        have BX := Lib.hid (BX2.out.trans (hBW.mono BX2.out.size))
        clear hall hBW eo
        go_wp2_with fail
        go_ret
        exact ⟨by simp, BZ.out.trans (BX.out.mono BZ.out.size)⟩
    · have BX2 := Lib.hid BX.out
      go_wp2_with fail
      refine wp_region_tail (PP := trP7 T rb N (U.heap.size + 1) b o c   ) 12 rfl (by kernel_rfl) (by kernel_rfl) (by decide) (by decide) (trP7_mono T rb N (U.heap.size + 1) b o c   ) (fun _ => undef) (by simp [fillV, put_someT, setIfInBounds_toArray, set_cons_zero, set_cons_succ]) ?_ ?_
      · intro i o vs W hi ho he hBW K hK
        simp only [take_succ_cons, take_zero, fillV, put_someT, setIfInBounds_toArray, set_cons_zero, set_cons_succ] at hK ⊢
        have BW := Lib.hid (BX2.out.trans (hBW.mono BX2.out.size))
        have AXW := Lib.hid (AX.out.then BW.out)
        have R6W := Lib.hid ((BW.out.cell (p := ⟨U.heap.size + 1, 6, none⟩) RXL.out).trans RX6.out)
        obtain rfl | rfl | rfl | rfl | rfl | rfl | rfl | rfl | rfl | rfl | rfl | rfl := (show i = 0 ∨ i = 1 ∨ i = 2 ∨ i = 3 ∨ i = 4 ∨ i = 5 ∨ i = 6 ∨ i = 7 ∨ i = 8 ∨ i = 9 ∨ i = 10 ∨ i = 11 by exact (by have : i < 12 := hi; omega))
        · simp only [getElem?_toArray, getElem?_cons_zero, getElem?_cons_succ, Option.some.injEq] at ho
          subst ho
          rw [if_pos (by rfl)]
          simp only [put_someT, setIfInBounds_toArray, set_cons_zero, set_cons_succ] at hK
          have HK := Lib.hid hK
          clear hK he hi hBW
          go_simp
          exact HK.out _ _ (by first | rfl | simp [trP7]) (Below.refl _ _)
        · simp only [getElem?_toArray, getElem?_cons_zero, getElem?_cons_succ, Option.some.injEq] at ho
          subst ho
          have e0 : vs 0 = .pointer (some ⟨U.heap.size + 1, 6, none⟩) := (he ⟨0, .data⟩ (by simp) rfl : trP7 T rb N (U.heap.size + 1) b o c    0 (vs 0) W)
          rw [e0] at hK ⊢
          rw [if_pos (by rfl)]
          simp only [put_someT, setIfInBounds_toArray, set_cons_zero, set_cons_succ] at hK
          have HK := Lib.hid hK
          clear hK he hi hBW
          have cx := R6W.out
          go_simp
          exact HK.out _ _ rfl (Below.refl _ _)
        · simp only [getElem?_toArray, getElem?_cons_zero, getElem?_cons_succ, Option.some.injEq] at ho
          subst ho
          have e1 : vs 1 = .slice (some ⟨b, o, none⟩) 2 c := (he ⟨1, .data⟩ (by simp) rfl : trP7 T rb N (U.heap.size + 1) b o c    1 (vs 1) W)
          rw [e1] at hK ⊢
          rw [if_pos (by rfl)]
          simp only [put_someT, setIfInBounds_toArray, set_cons_zero, set_cons_succ] at hK
          have HK := Lib.hid hK
          clear hK he hi hBW
          go_simp
          exact HK.out _ _ (by first | rfl | simp [trP7]) (Below.refl _ _)
        · simp only [getElem?_toArray, getElem?_cons_zero, getElem?_cons_succ, Option.some.injEq] at ho
          subst ho
          have e2 : vs 2 = .int .i64 2 := (he ⟨2, .data⟩ (by simp) rfl : trP7 T rb N (U.heap.size + 1) b o c    2 (vs 2) W)
          rw [e2] at hK ⊢
          rw [if_pos (by rfl)]
          simp only [put_someT, setIfInBounds_toArray, set_cons_zero, set_cons_succ] at hK
          have HK := Lib.hid hK
          clear hK he hi hBW
          go_simp
          exact HK.out _ _ (by first | rfl | simp [trP7]) (Below.refl _ _)
        · simp only [getElem?_toArray, getElem?_cons_zero, getElem?_cons_succ, Option.some.injEq] at ho
          subst ho
          have e3 : vs 3 = .bool false := (he ⟨3, .data⟩ (by simp) rfl : trP7 T rb N (U.heap.size + 1) b o c    3 (vs 3) W)
          rw [e3] at hK ⊢
          rw [if_pos (by rfl)]
          simp only [put_someT, setIfInBounds_toArray, set_cons_zero, set_cons_succ] at hK
          have HK := Lib.hid hK
          clear hK he hi hBW
          go_simp
          exact HK.out _ _ (by first | rfl | simp [trP7]) (Below.refl _ _)
        · simp only [getElem?_toArray, getElem?_cons_zero, getElem?_cons_succ, Option.some.injEq] at ho
          subst ho
          have e4 : vs 4 = .bool false := (he ⟨4, .guard⟩ (by simp) rfl : trP7 T rb N (U.heap.size + 1) b o c    4 (vs 4) W)
          rw [e4] at hK ⊢
          rw [if_neg (by exact Bool.false_ne_true)]
          exact hK _ _ rfl (Below.refl _ _)
        · simp only [getElem?_toArray, getElem?_cons_zero, getElem?_cons_succ, Option.some.injEq] at ho
          subst ho
          have e4 : vs 4 = .bool false := (he ⟨4, .guard⟩ (by simp) rfl : trP7 T rb N (U.heap.size + 1) b o c    4 (vs 4) W)
          rw [e4] at hK ⊢
          rw [if_neg (by exact Bool.false_ne_true)]
          exact hK _ _ rfl (Below.refl _ _)
        · simp only [getElem?_toArray, getElem?_cons_zero, getElem?_cons_succ, Option.some.injEq] at ho
          subst ho
          have e6 : vs 6 = undef := (he ⟨6, .data⟩ (by simp) rfl : trP7 T rb N (U.heap.size + 1) b o c    6 (vs 6) W)
          rw [e6] at hK ⊢
          have e4 : vs 4 = .bool false := (he ⟨4, .guard⟩ (by simp) rfl : trP7 T rb N (U.heap.size + 1) b o c    4 (vs 4) W)
          rw [e4] at hK ⊢
          rw [if_neg (by exact Bool.false_ne_true)]
          exact hK _ _ rfl (Below.refl _ _)
        · simp only [getElem?_toArray, getElem?_cons_zero, getElem?_cons_succ, Option.some.injEq] at ho
          subst ho
          have e7 : vs 7 = undef := (he ⟨7, .data⟩ (by simp) rfl : trP7 T rb N (U.heap.size + 1) b o c    7 (vs 7) W)
          rw [e7] at hK ⊢
          have e4 : vs 4 = .bool false := (he ⟨4, .guard⟩ (by simp) rfl : trP7 T rb N (U.heap.size + 1) b o c    4 (vs 4) W)
          rw [e4] at hK ⊢
          rw [if_neg (by exact Bool.false_ne_true)]
          exact hK _ _ rfl (Below.refl _ _)
        · simp only [getElem?_toArray, getElem?_cons_zero, getElem?_cons_succ, Option.some.injEq] at ho
          subst ho
          have e8 : vs 8 = undef := (he ⟨8, .data⟩ (by simp) rfl : trP7 T rb N (U.heap.size + 1) b o c    8 (vs 8) W)
          rw [e8] at hK ⊢
          have e4 : vs 4 = .bool false := (he ⟨4, .guard⟩ (by simp) rfl : trP7 T rb N (U.heap.size + 1) b o c    4 (vs 4) W)
          rw [e4] at hK ⊢
          rw [if_neg (by exact Bool.false_ne_true)]
          exact hK _ _ rfl (Below.refl _ _)
        · simp only [getElem?_toArray, getElem?_cons_zero, getElem?_cons_succ, Option.some.injEq] at ho
          subst ho
          have e5 : vs 5 = undef := (he ⟨5, .data⟩ (by simp) rfl : trP7 T rb N (U.heap.size + 1) b o c    5 (vs 5) W)
          rw [e5] at hK ⊢
          have e9 : vs 9 = undef := (he ⟨9, .data⟩ (by simp) rfl : trP7 T rb N (U.heap.size + 1) b o c    9 (vs 9) W)
          rw [e9] at hK ⊢
          have e4 : vs 4 = .bool false := (he ⟨4, .guard⟩ (by simp) rfl : trP7 T rb N (U.heap.size + 1) b o c    4 (vs 4) W)
          rw [e4] at hK ⊢
          rw [if_neg (by exact Bool.false_ne_true)]
          exact hK _ _ rfl (Below.refl _ _)
        · simp only [getElem?_toArray, getElem?_cons_zero, getElem?_cons_succ, Option.some.injEq] at ho
          subst ho
          have e4 : vs 4 = .bool false := (he ⟨4, .data⟩ (by simp) rfl : trP7 T rb N (U.heap.size + 1) b o c    4 (vs 4) W)
          rw [e4] at hK ⊢
          have e10 : vs 10 = undef := (he ⟨10, .data⟩ (by simp) rfl : trP7 T rb N (U.heap.size + 1) b o c    10 (vs 10) W)
          rw [e10] at hK ⊢
          rw [if_pos (by rfl)]
          simp only [put_someT, setIfInBounds_toArray, set_cons_zero, set_cons_succ] at hK
          have HK := Lib.hid hK
          clear hK he hi hBW
          go_simp
          exact HK.out _ _ (by first | rfl | simp [trP7]) (Below.refl _ _)
      · intro vs W hall hBW
        have eo : vs 11 = .bool false := hall 11 (by decide)
        simp only [take_succ_cons, take_zero, List.drop_succ_cons, List.drop_zero, fillV, put_someT, put_noneC, setIfInBounds_toArray, set_cons_zero, set_cons_succ]
        rw [eo]
        generalize vs 0 = y0
        generalize vs 1 = y1
        generalize vs 2 = y2
        generalize vs 3 = y3
        generalize vs 4 = y4
        generalize vs 5 = y5
        generalize vs 6 = y6
        generalize vs 7 = y7
        generalize vs 8 = y8
        generalize vs 9 = y9
        generalize vs 10 = y10
        have BX := Lib.hid (BX2.out.trans (hBW.mono BX2.out.size))
        clear hall hBW eo
        go_wp2_with fail
        go_ret
        exact ⟨by simp, BZ.out.trans (BX.out.mono BZ.out.size)⟩
set_option maxRecDepth 100000 in
set_option maxHeartbeats 16000000 in
theorem unless3_any (R : RV) (hn : R.args.length = 3) (hR : ∀ a ∈ R.args, IsOk T X N L a) (rb : Nat) (f : Nat → Bool) (U : World) (hA : AskT T X N rb L f U) (hT : RTree U.heap.size U R) :
    Calls Tryz.prog 140 #[askW T rb N, R.val] U fun e w' => e = .returned (.bool (if Tr.sat N (pvL L) (R.args[1]'(by omega)).tree f then Tr.sat N (pvL L) (R.args[2]'(by omega)).tree f else Tr.sat N (pvL L) (R.args[0]'(by omega)).tree f)) ∧ Below U.heap.size U w' := by
  have b1 := (Below.refl U.heap.size U).alloc (Nat.le_refl _) (.cells #[.pointer (some ⟨T, 0, none⟩), .slice (some ⟨rb, 0, none⟩) N N] 145)
  have b2 := b1.alloc (by simp) (.cells #[.int .u8 R.kind, .string (bs R.dep.name), .int .u8 R.dep.op, .int .i64 R.dep.evr.epoch, .string (bs R.dep.evr.ver), .string (bs R.dep.evr.rel), .slice R.addr R.args.length R.cap] 39)
  have a1 := (ABox.new T rb N U 145).then ((Below.refl _ _).alloc (Nat.le_refl _) (.cells #[.int .u8 R.kind, .string (bs R.dep.name), .int .u8 R.dep.op, .int .i64 R.dep.evr.epoch, .string (bs R.dep.evr.ver), .string (bs R.dep.evr.rel), .slice R.addr R.args.length R.cap] 39))
  obtain ⟨b, o, hA0, _⟩ := (show RRow U.heap.size U R.addr R.cap R.args from ⟨hT.row, hT.sub⟩).at_ (k := 0) (by omega)
  have IS0 := Lib.hid (fun W' (hb : Below U.heap.size U W') => hR (R.args[0]'(by omega)) (List.getElem_mem _) rb f W' (hA.then hb) (((hT.sub _ (List.getElem_mem _)).keeps hb).more hb.size))
  have RC0 := Lib.hid (fun W' (hb : Below U.heap.size U W') => rrow_cells (((show RRow U.heap.size U R.addr R.cap R.args from ⟨hT.row, hT.sub⟩).below hb)) hA0 (k := 0) (by omega))
  obtain ⟨o0, ho0⟩ : ∃ o0, o0 = o + 0 * 7 := ⟨_, rfl⟩
  rw [← ho0] at RC0
  have HO0 := Lib.hid ho0
  have IS1 := Lib.hid (fun W' (hb : Below U.heap.size U W') => hR (R.args[1]'(by omega)) (List.getElem_mem _) rb f W' (hA.then hb) (((hT.sub _ (List.getElem_mem _)).keeps hb).more hb.size))
  have RC1 := Lib.hid (fun W' (hb : Below U.heap.size U W') => rrow_cells (((show RRow U.heap.size U R.addr R.cap R.args from ⟨hT.row, hT.sub⟩).below hb)) hA0 (k := 1) (by omega))
  obtain ⟨o1, ho1⟩ : ∃ o1, o1 = o + 1 * 7 := ⟨_, rfl⟩
  rw [← ho1] at RC1
  have HO1 := Lib.hid ho1
  have IS2 := Lib.hid (fun W' (hb : Below U.heap.size U W') => hR (R.args[2]'(by omega)) (List.getElem_mem _) rb f W' (hA.then hb) (((hT.sub _ (List.getElem_mem _)).keeps hb).more hb.size))
  have RC2 := Lib.hid (fun W' (hb : Below U.heap.size U W') => rrow_cells (((show RRow U.heap.size U R.addr R.cap R.args from ⟨hT.row, hT.sub⟩).below hb)) hA0 (k := 2) (by omega))
  obtain ⟨o2, ho2⟩ : ∃ o2, o2 = o + 2 * 7 := ⟨_, rfl⟩
  rw [← ho2] at RC2
  have HO2 := Lib.hid ho2
  unfold askW RV.val at IS0 IS1 IS2
  unfold askW RV.val
  clear hA hT hR b1
  generalize (R.args[0]'(by omega)) = S0 at *
  generalize Tr.sat N (pvL L) S0.tree f = r0 at *
  generalize (R.args[1]'(by omega)) = S1 at *
  generalize Tr.sat N (pvL L) S1.tree f = r1 at *
  generalize (R.args[2]'(by omega)) = S2 at *
  generalize Tr.sat N (pvL L) S2.tree f = r2 at *
  clear ho0 ho1 ho2
  rw [hA0] at a1 b2 ⊢
  rw [hn] at a1 b2 ⊢
  clear hn
  go_enter Tryz.func140, Tryz.ntmps140
  go_wp2_with fail
  obtain ⟨V, hV⟩ : ∃ V, V = (U.alloc (.cells #[.pointer (some ⟨T, 0, none⟩), .slice (some ⟨rb, 0, none⟩) N N] 145)).alloc (.cells #[.int .u8 R.kind, .string (bs R.dep.name), .int .u8 R.dep.op, .int .i64 R.dep.evr.epoch, .string (bs R.dep.evr.ver), .string (bs R.dep.evr.rel), .slice (some ⟨b, o, none⟩) 3 R.cap] 39) := ⟨_, rfl⟩
  have RX6 := Lib.hid (show V.cell? ⟨U.heap.size + 1, 6, none⟩ = some (.slice (some ⟨b, o, none⟩) 3 R.cap) by rw [hV]; simp [go_sem])
  have RXL := Lib.hid (show U.heap.size + 1 < V.heap.size by rw [hV]; simp)
  rw [← hV] at a1 b2 ⊢
  have AX := Lib.hid a1
  have BZ := Lib.hid b2
  clear hV a1 b2
  have RC2 := Lib.hid (fun W' (hb : Below V.heap.size V W') => RC2.out W' (BZ.out.trans (hb.mono BZ.out.size)))
  have IS2 := Lib.hid (fun W' (hb : Below V.heap.size V W') => IS2.out W' (BZ.out.trans (hb.mono BZ.out.size)))
  have RC1 := Lib.hid (fun W' (hb : Below V.heap.size V W') => RC1.out W' (BZ.out.trans (hb.mono BZ.out.size)))
  have IS1 := Lib.hid (fun W' (hb : Below V.heap.size V W') => IS1.out W' (BZ.out.trans (hb.mono BZ.out.size)))
  have RC0 := Lib.hid (fun W' (hb : Below V.heap.size V W') => RC0.out W' (BZ.out.trans (hb.mono BZ.out.size)))
  have IS0 := Lib.hid (fun W' (hb : Below V.heap.size V W') => IS0.out W' (BZ.out.trans (hb.mono BZ.out.size)))
  generalize R.cap = c at *
  have BV := Lib.hid (Below.refl V.heap.size V)
  refine wp_region_tail (PP := trP12 T rb N (U.heap.size + 1) b o c o1 S1 r1) 6 rfl (by kernel_rfl) (by kernel_rfl) (by decide) (by decide) (trP12_mono T rb N (U.heap.size + 1) b o c o1 S1 r1) (fun _ => undef) (by simp [fillV, put_someT, setIfInBounds_toArray, set_cons_zero, set_cons_succ]) ?_ ?_
  · intro i o vs W hi ho he hBW K hK
    simp only [take_succ_cons, take_zero, fillV, put_someT, setIfInBounds_toArray, set_cons_zero, set_cons_succ] at hK ⊢
    have BW := Lib.hid (BV.out.trans (hBW.mono BV.out.size))
    have AXW := Lib.hid (AX.out.then BW.out)
    have R6W := Lib.hid ((BW.out.cell (p := ⟨U.heap.size + 1, 6, none⟩) RXL.out).trans RX6.out)
    obtain rfl | rfl | rfl | rfl | rfl | rfl := (show i = 0 ∨ i = 1 ∨ i = 2 ∨ i = 3 ∨ i = 4 ∨ i = 5 by exact (by have : i < 6 := hi; omega))
    · simp only [getElem?_toArray, getElem?_cons_zero, getElem?_cons_succ, Option.some.injEq] at ho
      subst ho
      rw [if_pos (by rfl)]
      simp only [put_someT, setIfInBounds_toArray, set_cons_zero, set_cons_succ] at hK
      have HK := Lib.hid hK
      clear hK he hi hBW
      have a0 := AXW.out.2.1
      have a1 := AXW.out.2.2
      go_simp
      exact HK.out _ _ rfl (Below.refl _ _)
    · simp only [getElem?_toArray, getElem?_cons_zero, getElem?_cons_succ, Option.some.injEq] at ho
      subst ho
      rw [if_pos (by rfl)]
      simp only [put_someT, setIfInBounds_toArray, set_cons_zero, set_cons_succ] at hK
      have HK := Lib.hid hK
      clear hK he hi hBW
      go_simp
      exact HK.out _ _ (by first | rfl | simp [trP12]) (Below.refl _ _)
    · simp only [getElem?_toArray, getElem?_cons_zero, getElem?_cons_succ, Option.some.injEq] at ho
      subst ho
      have e1 : vs 1 = .pointer (some ⟨U.heap.size + 1, 6, none⟩) := (he ⟨1, .data⟩ (by simp) rfl : trP12 T rb N (U.heap.size + 1) b o c o1 S1 r1 1 (vs 1) W)
      rw [e1] at hK ⊢
      rw [if_pos (by rfl)]
      simp only [put_someT, setIfInBounds_toArray, set_cons_zero, set_cons_succ] at hK
      have HK := Lib.hid hK
      clear hK he hi hBW
      have cx := R6W.out
      go_simp
      exact HK.out _ _ rfl (Below.refl _ _)
    · simp only [getElem?_toArray, getElem?_cons_zero, getElem?_cons_succ, Option.some.injEq] at ho
      subst ho
      have e2 : vs 2 = .slice (some ⟨b, o, none⟩) 3 c := (he ⟨2, .data⟩ (by simp) rfl : trP12 T rb N (U.heap.size + 1) b o c o1 S1 r1 2 (vs 2) W)
      rw [e2] at hK ⊢
      rw [if_pos (by rfl)]
      simp only [put_someT, setIfInBounds_toArray, set_cons_zero, set_cons_succ] at hK
      have HK := Lib.hid hK
      clear hK he hi hBW
      go_simp
      exact HK.out _ _ (by rw [HO1.out]; rfl) (Below.refl _ _)
    · simp only [getElem?_toArray, getElem?_cons_zero, getElem?_cons_succ, Option.some.injEq] at ho
      subst ho
      have e3 : vs 3 = .pointer (some ⟨b, o1, none⟩) := (he ⟨3, .data⟩ (by simp) rfl : trP12 T rb N (U.heap.size + 1) b o c o1 S1 r1 3 (vs 3) W)
      rw [e3] at hK ⊢
      rw [if_pos (by rfl)]
      simp only [put_someT, setIfInBounds_toArray, set_cons_zero, set_cons_succ] at hK
      have HK := Lib.hid hK
      clear hK he hi hBW
      obtain ⟨d0, d1, d2, d3, d4, d5, d6⟩ := RC1.out W BW.out
      go_simp
      exact HK.out _ _ rfl (Below.refl _ _)
    · simp only [getElem?_toArray, getElem?_cons_zero, getElem?_cons_succ, Option.some.injEq] at ho
      subst ho
      have e0 : vs 0 = .agg #[.pointer (some ⟨T, 0, none⟩), .slice (some ⟨rb, 0, none⟩) N N] := (he ⟨0, .data⟩ (by simp) rfl : trP12 T rb N (U.heap.size + 1) b o c o1 S1 r1 0 (vs 0) W)
      rw [e0] at hK ⊢
      have e4 : vs 4 = .agg #[.int .u8 S1.kind, .string (bs S1.dep.name), .int .u8 S1.dep.op, .int .i64 S1.dep.evr.epoch, .string (bs S1.dep.evr.ver), .string (bs S1.dep.evr.rel), .slice S1.addr S1.args.length S1.cap] := (he ⟨4, .data⟩ (by simp) rfl : trP12 T rb N (U.heap.size + 1) b o c o1 S1 r1 4 (vs 4) W)
      rw [e4] at hK ⊢
      rw [if_pos (by rfl)]
      simp only [put_someT, setIfInBounds_toArray, set_cons_zero, set_cons_succ] at hK
      have HK := Lib.hid hK
      clear hK he hi hBW
      have ISW := IS1.out W BW.out
      go_simp
      go_at_call 95
      refine ISW.mono ?_
      rintro en w9 ⟨rfl, h⟩
      go_simp
      exact HK.out _ _ rfl h
  · intro vs W hall hBW
    have eo : vs 5 = .bool r1 := hall 5 (by decide)
    simp only [take_succ_cons, take_zero, List.drop_succ_cons, List.drop_zero, fillV, put_someT, put_noneC, setIfInBounds_toArray, set_cons_zero, set_cons_succ]
    rw [eo]
    generalize vs 0 = y0
    generalize vs 1 = y1
    generalize vs 2 = y2
    generalize vs 3 = y3
    generalize vs 4 = y4
    have BX := Lib.hid (BV.out.trans (hBW.mono BV.out.size))
    clear hall hBW eo
    cases r1
    · have BX2 := Lib.hid BX.out
      go_wp2_with fail
      refine wp_region_tail (PP := trP11 T rb N (U.heap.size + 1) b o c o0 S0 r0) 6 rfl (by kernel_rfl) (by kernel_rfl) (by decide) (by decide) (trP11_mono T rb N (U.heap.size + 1) b o c o0 S0 r0) (fun _ => undef) (by simp [fillV, put_someT, setIfInBounds_toArray, set_cons_zero, set_cons_succ]) ?_ ?_
      · intro i o vs W hi ho he hBW K hK
        simp only [take_succ_cons, take_zero, fillV, put_someT, setIfInBounds_toArray, set_cons_zero, set_cons_succ] at hK ⊢
        have BW := Lib.hid (BX2.out.trans (hBW.mono BX2.out.size))
        have AXW := Lib.hid (AX.out.then BW.out)
        have R6W := Lib.hid ((BW.out.cell (p := ⟨U.heap.size + 1, 6, none⟩) RXL.out).trans RX6.out)
        obtain rfl | rfl | rfl | rfl | rfl | rfl := (show i = 0 ∨ i = 1 ∨ i = 2 ∨ i = 3 ∨ i = 4 ∨ i = 5 by exact (by have : i < 6 := hi; omega))
        · simp only [getElem?_toArray, getElem?_cons_zero, getElem?_cons_succ, Option.some.injEq] at ho
          subst ho
          rw [if_pos (by rfl)]
          simp only [put_someT, setIfInBounds_toArray, set_cons_zero, set_cons_succ] at hK
          have HK := Lib.hid hK
          clear hK he hi hBW
          have a0 := AXW.out.2.1
          have a1 := AXW.out.2.2
          go_simp
          exact HK.out _ _ rfl (Below.refl _ _)
        · simp only [getElem?_toArray, getElem?_cons_zero, getElem?_cons_succ, Option.some.injEq] at ho
          subst ho
          rw [if_pos (by rfl)]
          simp only [put_someT, setIfInBounds_toArray, set_cons_zero, set_cons_succ] at hK
          have HK := Lib.hid hK
          clear hK he hi hBW
          go_simp
          exact HK.out _ _ (by first | rfl | simp [trP11]) (Below.refl _ _)
        · simp only [getElem?_toArray, getElem?_cons_zero, getElem?_cons_succ, Option.some.injEq] at ho
          subst ho
          have e1 : vs 1 = .pointer (some ⟨U.heap.size + 1, 6, none⟩) := (he ⟨1, .data⟩ (by simp) rfl : trP11 T rb N (U.heap.size + 1) b o c o0 S0 r0 1 (vs 1) W)
          rw [e1] at hK ⊢
          rw [if_pos (by rfl)]
          simp only [put_someT, setIfInBounds_toArray, set_cons_zero, set_cons_succ] at hK
          have HK := Lib.hid hK
          clear hK he hi hBW
          have cx := R6W.out
          go_simp
          exact HK.out _ _ rfl (Below.refl _ _)
        · simp only [getElem?_toArray, getElem?_cons_zero, getElem?_cons_succ, Option.some.injEq] at ho
          subst ho
          have e2 : vs 2 = .slice (some ⟨b, o, none⟩) 3 c := (he ⟨2, .data⟩ (by simp) rfl : trP11 T rb N (U.heap.size + 1) b o c o0 S0 r0 2 (vs 2) W)
          rw [e2] at hK ⊢
          rw [if_pos (by rfl)]
          simp only [put_someT, setIfInBounds_toArray, set_cons_zero, set_cons_succ] at hK
          have HK := Lib.hid hK
          clear hK he hi hBW
          go_simp
          exact HK.out _ _ (by rw [HO0.out]; rfl) (Below.refl _ _)
        · simp only [getElem?_toArray, getElem?_cons_zero, getElem?_cons_succ, Option.some.injEq] at ho
          subst ho
          have e3 : vs 3 = .pointer (some ⟨b, o0, none⟩) := (he ⟨3, .data⟩ (by simp) rfl : trP11 T rb N (U.heap.size + 1) b o c o0 S0 r0 3 (vs 3) W)
          rw [e3] at hK ⊢
          rw [if_pos (by rfl)]
          simp only [put_someT, setIfInBounds_toArray, set_cons_zero, set_cons_succ] at hK
          have HK := Lib.hid hK
          clear hK he hi hBW
          obtain ⟨d0, d1, d2, d3, d4, d5, d6⟩ := RC0.out W BW.out
          go_simp
          exact HK.out _ _ rfl (Below.refl _ _)
        · simp only [getElem?_toArray, getElem?_cons_zero, getElem?_cons_succ, Option.some.injEq] at ho
          subst ho
          have e0 : vs 0 = .agg #[.pointer (some ⟨T, 0, none⟩), .slice (some ⟨rb, 0, none⟩) N N] := (he ⟨0, .data⟩ (by simp) rfl : trP11 T rb N (U.heap.size + 1) b o c o0 S0 r0 0 (vs 0) W)
          rw [e0] at hK ⊢
          have e4 : vs 4 = .agg #[.int .u8 S0.kind, .string (bs S0.dep.name), .int .u8 S0.dep.op, .int .i64 S0.dep.evr.epoch, .string (bs S0.dep.evr.ver), .string (bs S0.dep.evr.rel), .slice S0.addr S0.args.length S0.cap] := (he ⟨4, .data⟩ (by simp) rfl : trP11 T rb N (U.heap.size + 1) b o c o0 S0 r0 4 (vs 4) W)
          rw [e4] at hK ⊢
          rw [if_pos (by rfl)]
          simp only [put_someT, setIfInBounds_toArray, set_cons_zero, set_cons_succ] at hK
          have HK := Lib.hid hK
          clear hK he hi hBW
          have ISW := IS0.out W BW.out
          go_simp
          go_at_call 95
          refine ISW.mono ?_
          rintro en w9 ⟨rfl, h⟩
          go_simp
          exact HK.out _ _ rfl h
      · intro vs W hall hBW
        have eo : vs 5 = .bool r0 := hall 5 (by decide)
        simp only [take_succ_cons, take_zero, List.drop_succ_cons, List.drop_zero, fillV, put_someT, put_noneC, setIfInBounds_toArray, set_cons_zero, set_cons_succ]
        rw [eo]
        generalize vs 0 = y0
        generalize vs 1 = y1
        generalize vs 2 = y2
        generalize vs 3 = y3
        generalize vs 4 = y4
        have BX := Lib.hid (BX2.out.trans (hBW.mono BX2.out.size))
        clear hall hBW eo
        go_wp2_with fail
        go_ret
        exact ⟨by simp, BZ.out.trans (BX.out.mono BZ.out.size)⟩
    · have BX2 := Lib.hid BX.out
      go_wp2_with fail
      refine wp_region_tail (PP := trP10 T rb N (U.heap.size + 1) b o c o2 S2 r2) 12 rfl (by kernel_rfl) (by kernel_rfl) (by decide) (by decide) (trP10_mono T rb N (U.heap.size + 1) b o c o2 S2 r2) (fun _ => undef) (by simp [fillV, put_someT, setIfInBounds_toArray, set_cons_zero, set_cons_succ]) ?_ ?_
      · intro i o vs W hi ho he hBW K hK
        simp only [take_succ_cons, take_zero, fillV, put_someT, setIfInBounds_toArray, set_cons_zero, set_cons_succ] at hK ⊢
        have BW := Lib.hid (BX2.out.trans (hBW.mono BX2.out.size))
        have AXW := Lib.hid (AX.out.then BW.out)
        have R6W := Lib.hid ((BW.out.cell (p := ⟨U.heap.size + 1, 6, none⟩) RXL.out).trans RX6.out)
        obtain rfl | rfl | rfl | rfl | rfl | rfl | rfl | rfl | rfl | rfl | rfl | rfl := (show i = 0 ∨ i = 1 ∨ i = 2 ∨ i = 3 ∨ i = 4 ∨ i = 5 ∨ i = 6 ∨ i = 7 ∨ i = 8 ∨ i = 9 ∨ i = 10 ∨ i = 11 by exact (by have : i < 12 := hi; omega))
        · simp only [getElem?_toArray, getElem?_cons_zero, getElem?_cons_succ, Option.some.injEq] at ho
          subst ho
          rw [if_pos (by rfl)]
          simp only [put_someT, setIfInBounds_toArray, set_cons_zero, set_cons_succ] at hK
          have HK := Lib.hid hK
          clear hK he hi hBW
          go_simp
          exact HK.out _ _ (by first | rfl | simp [trP10]) (Below.refl _ _)
        · simp only [getElem?_toArray, getElem?_cons_zero, getElem?_cons_succ, Option.some.injEq] at ho
          subst ho
          have e0 : vs 0 = .pointer (some ⟨U.heap.size + 1, 6, none⟩) := (he ⟨0, .data⟩ (by simp) rfl : trP10 T rb N (U.heap.size + 1) b o c o2 S2 r2 0 (vs 0) W)
          rw [e0] at hK ⊢
          rw [if_pos (by rfl)]
          simp only [put_someT, setIfInBounds_toArray, set_cons_zero, set_cons_succ] at hK
          have HK := Lib.hid hK
          clear hK he hi hBW
          have cx := R6W.out
          go_simp
          exact HK.out _ _ rfl (Below.refl _ _)
        · simp only [getElem?_toArray, getElem?_cons_zero, getElem?_cons_succ, Option.some.injEq] at ho
          subst ho
          have e1 : vs 1 = .slice (some ⟨b, o, none⟩) 3 c := (he ⟨1, .data⟩ (by simp) rfl : trP10 T rb N (U.heap.size + 1) b o c o2 S2 r2 1 (vs 1) W)
          rw [e1] at hK ⊢
          rw [if_pos (by rfl)]
          simp only [put_someT, setIfInBounds_toArray, set_cons_zero, set_cons_succ] at hK
          have HK := Lib.hid hK
          clear hK he hi hBW
          go_simp
          exact HK.out _ _ (by first | rfl | simp [trP10]) (Below.refl _ _)
        · simp only [getElem?_toArray, getElem?_cons_zero, getElem?_cons_succ, Option.some.injEq] at ho
          subst ho
          have e2 : vs 2 = .int .i64 3 := (he ⟨2, .data⟩ (by simp) rfl : trP10 T rb N (U.heap.size + 1) b o c o2 S2 r2 2 (vs 2) W)
          rw [e2] at hK ⊢
          rw [if_pos (by rfl)]
          simp only [put_someT, setIfInBounds_toArray, set_cons_zero, set_cons_succ] at hK
          have HK := Lib.hid hK
          clear hK he hi hBW
          go_simp
          exact HK.out _ _ (by first | rfl | simp [trP10]) (Below.refl _ _)
        · simp only [getElem?_toArray, getElem?_cons_zero, getElem?_cons_succ, Option.some.injEq] at ho
          subst ho
          have e3 : vs 3 = .bool true := (he ⟨3, .data⟩ (by simp) rfl : trP10 T rb N (U.heap.size + 1) b o c o2 S2 r2 3 (vs 3) W)
          rw [e3] at hK ⊢
          rw [if_pos (by rfl)]
          simp only [put_someT, setIfInBounds_toArray, set_cons_zero, set_cons_succ] at hK
          have HK := Lib.hid hK
          clear hK he hi hBW
          go_simp
          exact HK.out _ _ (by first | rfl | simp [trP10]) (Below.refl _ _)
        · simp only [getElem?_toArray, getElem?_cons_zero, getElem?_cons_succ, Option.some.injEq] at ho
          subst ho
          have e4 : vs 4 = .bool true := (he ⟨4, .guard⟩ (by simp) rfl : trP10 T rb N (U.heap.size + 1) b o c o2 S2 r2 4 (vs 4) W)
          rw [e4] at hK ⊢
          rw [if_pos (by rfl)]
          simp only [put_someT, setIfInBounds_toArray, set_cons_zero, set_cons_succ] at hK
          have HK := Lib.hid hK
          clear hK he hi hBW
          have a0 := AXW.out.2.1
          have a1 := AXW.out.2.2
          go_simp
          exact HK.out _ _ rfl (Below.refl _ _)
        · simp only [getElem?_toArray, getElem?_cons_zero, getElem?_cons_succ, Option.some.injEq] at ho
          subst ho
          have e4 : vs 4 = .bool true := (he ⟨4, .guard⟩ (by simp) rfl : trP10 T rb N (U.heap.size + 1) b o c o2 S2 r2 4 (vs 4) W)
          rw [e4] at hK ⊢
          rw [if_pos (by rfl)]
          simp only [put_someT, setIfInBounds_toArray, set_cons_zero, set_cons_succ] at hK
          have HK := Lib.hid hK
          clear hK he hi hBW
          go_simp
          exact HK.out _ _ (by first | rfl | simp [trP10]) (Below.refl _ _)
        · simp only [getElem?_toArray, getElem?_cons_zero, getElem?_cons_succ, Option.some.injEq] at ho
          subst ho
          have e6 : vs 6 = .pointer (some ⟨U.heap.size + 1, 6, none⟩) := (he ⟨6, .data⟩ (by simp) rfl : trP10 T rb N (U.heap.size + 1) b o c o2 S2 r2 6 (vs 6) W)
          rw [e6] at hK ⊢
          have e4 : vs 4 = .bool true := (he ⟨4, .guard⟩ (by simp) rfl : trP10 T rb N (U.heap.size + 1) b o c o2 S2 r2 4 (vs 4) W)
          rw [e4] at hK ⊢
          rw [if_pos (by rfl)]
          simp only [put_someT, setIfInBounds_toArray, set_cons_zero, set_cons_succ] at hK
          have HK := Lib.hid hK
          clear hK he hi hBW
          have cx := R6W.out
          go_simp
          exact HK.out _ _ rfl (Below.refl _ _)
        · simp only [getElem?_toArray, getElem?_cons_zero, getElem?_cons_succ, Option.some.injEq] at ho
          subst ho
          have e7 : vs 7 = .slice (some ⟨b, o, none⟩) 3 c := (he ⟨7, .data⟩ (by simp) rfl : trP10 T rb N (U.heap.size + 1) b o c o2 S2 r2 7 (vs 7) W)
          rw [e7] at hK ⊢
          have e4 : vs 4 = .bool true := (he ⟨4, .guard⟩ (by simp) rfl : trP10 T rb N (U.heap.size + 1) b o c o2 S2 r2 4 (vs 4) W)
          rw [e4] at hK ⊢
          rw [if_pos (by rfl)]
          simp only [put_someT, setIfInBounds_toArray, set_cons_zero, set_cons_succ] at hK
          have HK := Lib.hid hK
          clear hK he hi hBW
          go_simp
          exact HK.out _ _ (by rw [HO2.out]; rfl) (Below.refl _ _)
        · simp only [getElem?_toArray, getElem?_cons_zero, getElem?_cons_succ, Option.some.injEq] at ho
          subst ho
          have e8 : vs 8 = .pointer (some ⟨b, o2, none⟩) := (he ⟨8, .data⟩ (by simp) rfl : trP10 T rb N (U.heap.size + 1) b o c o2 S2 r2 8 (vs 8) W)
          rw [e8] at hK ⊢
          have e4 : vs 4 = .bool true := (he ⟨4, .guard⟩ (by simp) rfl : trP10 T rb N (U.heap.size + 1) b o c o2 S2 r2 4 (vs 4) W)
          rw [e4] at hK ⊢
          rw [if_pos (by rfl)]
          simp only [put_someT, setIfInBounds_toArray, set_cons_zero, set_cons_succ] at hK
          have HK := Lib.hid hK
          clear hK he hi hBW
          obtain ⟨d0, d1, d2, d3, d4, d5, d6⟩ := RC2.out W BW.out
          go_simp
          exact HK.out _ _ rfl (Below.refl _ _)
        · simp only [getElem?_toArray, getElem?_cons_zero, getElem?_cons_succ, Option.some.injEq] at ho
          subst ho
          have e5 : vs 5 = .agg #[.pointer (some ⟨T, 0, none⟩), .slice (some ⟨rb, 0, none⟩) N N] := (he ⟨5, .data⟩ (by simp) rfl : trP10 T rb N (U.heap.size + 1) b o c o2 S2 r2 5 (vs 5) W)
          rw [e5] at hK ⊢
          have e9 : vs 9 = .agg #[.int .u8 S2.kind, .string (bs S2.dep.name), .int .u8 S2.dep.op, .int .i64 S2.dep.evr.epoch, .string (bs S2.dep.evr.ver), .string (bs S2.dep.evr.rel), .slice S2.addr S2.args.length S2.cap] := (he ⟨9, .data⟩ (by simp) rfl : trP10 T rb N (U.heap.size + 1) b o c o2 S2 r2 9 (vs 9) W)
          rw [e9] at hK ⊢
          have e4 : vs 4 = .bool true := (he ⟨4, .guard⟩ (by simp) rfl : trP10 T rb N (U.heap.size + 1) b o c o2 S2 r2 4 (vs 4) W)
          rw [e4] at hK ⊢
          rw [if_pos (by rfl)]
          simp only [put_someT, setIfInBounds_toArray, set_cons_zero, set_cons_succ] at hK
          have HK := Lib.hid hK
          clear hK he hi hBW
          have ISW := IS2.out W BW.out
          go_simp
          go_at_call 95
          refine ISW.mono ?_
          rintro en w9 ⟨rfl, h⟩
          go_simp
          exact HK.out _ _ rfl h
        · simp only [getElem?_toArray, getElem?_cons_zero, getElem?_cons_succ, Option.some.injEq] at ho
          subst ho
          have e4 : vs 4 = .bool true := (he ⟨4, .data⟩ (by simp) rfl : trP10 T rb N (U.heap.size + 1) b o c o2 S2 r2 4 (vs 4) W)
          rw [e4] at hK ⊢
          have e10 : vs 10 = .bool r2 := (he ⟨10, .data⟩ (by simp) rfl : trP10 T rb N (U.heap.size + 1) b o c o2 S2 r2 10 (vs 10) W)
          rw [e10] at hK ⊢
          rw [if_pos (by rfl)]
          simp only [put_someT, setIfInBounds_toArray, set_cons_zero, set_cons_succ] at hK
          have HK := Lib.hid hK
          clear hK he hi hBW
          go_simp
          exact HK.out _ _ (by first | rfl | simp [trP10]) (Below.refl _ _)
      · intro vs W hall hBW
        have eo : vs 11 = .bool r2 := hall 11 (by decide)
        simp only [take_succ_cons, take_zero, List.drop_succ_cons, List.drop_zero, fillV, put_someT, put_noneC, setIfInBounds_toArray, set_cons_zero, set_cons_succ]
        rw [eo]
        generalize vs 0 = y0
        generalize vs 1 = y1
        generalize vs 2 = y2
        generalize vs 3 = y3
        generalize vs 4 = y4
        generalize vs 5 = y5
        generalize vs 6 = y6
        generalize vs 7 = y7
        generalize vs 8 = y8
        generalize vs 9 = y9
        generalize vs 10 = y10
        have BX := Lib.hid (BX2.out.trans (hBW.mono BX2.out.size))
        clear hall hBW eo
        go_wp2_with fail
        go_ret
        exact ⟨by simp, BZ.out.trans (BX.out.mono BZ.out.size)⟩
end
end Go.Proofs.YteobmfpbgnmffaaGreatDoor
