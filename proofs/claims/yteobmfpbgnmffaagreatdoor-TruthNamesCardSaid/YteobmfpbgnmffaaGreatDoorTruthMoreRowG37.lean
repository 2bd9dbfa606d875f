/- TrIs5 -/
import Derived.Test.YteobmfpbgnmffaaGreatDoorTruthMoreRowG36
set_option linter.unusedSimpArgs false
set_option linter.unusedVariables false
open List (getElem?_toArray getElem?_cons_zero getElem?_cons_succ setIfInBounds_toArray set_cons_zero set_cons_succ take_succ_cons take_zero)
/- Walks: Without and an Atom (truth.asked: without, without$1, atom, atom$1). -/

namespace Go.Proofs.YteobmfpbgnmffaaGreatDoor
open Go.RowKit Go.Shelf
set_option linter.unusedVariables false

def trP21 (T rb N rx b o c o0 : Nat) (S0 : RV) (r0 : Bool) (i : Nat) (v : Value) (W : World) : Prop := match i with
  | 0 => v = .agg #[.pointer (some ⟨T, 0, none⟩), .slice (some ⟨rb, 0, none⟩) N N]
  | 1 => v = .pointer (some ⟨rx, 6, none⟩)
  | 2 => v = .slice (some ⟨b, o, none⟩) 2 c
  | 3 => v = .pointer (some ⟨b, o0, none⟩)
  | 4 => v = .agg #[.int .u8 S0.kind, .string (bs S0.dep.name), .int .u8 S0.dep.op, .int .i64 S0.dep.evr.epoch, .string (bs S0.dep.evr.ver), .string (bs S0.dep.evr.rel), .slice S0.addr S0.args.length S0.cap]
  | 5 => v = .bool false
  | 6 => v = .bool false
  | 7 => v = undef
  | 8 => v = undef
  | 9 => v = undef
  | 10 => v = undef
  | 11 => v = undef
  | 12 => v = undef
  | 13 => v = undef
  | 14 => v = .bool false
  | _ => False
theorem trP21_mono (T rb N rx b o c o0 : Nat) (S0 : RV) (r0 : Bool) : ∀ i v w w', trP21 T rb N rx b o c o0 S0 r0 i v w → Below w.heap.size w w' → trP21 T rb N rx b o c o0 S0 r0 i v w' := by
  intro i v w w' h hb
  match i, h with
  | 0, h => exact h
  | 1, h => exact h
  | 2, h => exact h
  | 3, h => exact h
  | 4, h => exact h
  | 5, h => exact h
  | 6, h => exact h
  | 7, h => exact h
  | 8, h => exact h
  | 9, h => exact h
  | 10, h => exact h
  | 11, h => exact h
  | 12, h => exact h
  | 13, h => exact h
  | 14, h => exact h
  | (k + 15), h => exact h.elim
def trP22 (T rb N rx b o c o0 o1 : Nat) (S0 S1 : RV) (r0 r1 : Bool) (i : Nat) (v : Value) (W : World) : Prop := match i with
  | 0 => v = .agg #[.pointer (some ⟨T, 0, none⟩), .slice (some ⟨rb, 0, none⟩) N N]
  | 1 => v = .pointer (some ⟨rx, 6, none⟩)
  | 2 => v = .slice (some ⟨b, o, none⟩) 2 c
  | 3 => v = .pointer (some ⟨b, o0, none⟩)
  | 4 => v = .agg #[.int .u8 S0.kind, .string (bs S0.dep.name), .int .u8 S0.dep.op, .int .i64 S0.dep.evr.epoch, .string (bs S0.dep.evr.ver), .string (bs S0.dep.evr.rel), .slice S0.addr S0.args.length S0.cap]
  | 5 => v = .bool true
  | 6 => v = .bool true
  | 7 => v = .agg #[.pointer (some ⟨T, 0, none⟩), .slice (some ⟨rb, 0, none⟩) N N]
  | 8 => v = .pointer (some ⟨rx, 6, none⟩)
  | 9 => v = .slice (some ⟨b, o, none⟩) 2 c
  | 10 => v = .pointer (some ⟨b, o1, none⟩)
  | 11 => v = .agg #[.int .u8 S1.kind, .string (bs S1.dep.name), .int .u8 S1.dep.op, .int .i64 S1.dep.evr.epoch, .string (bs S1.dep.evr.ver), .string (bs S1.dep.evr.rel), .slice S1.addr S1.args.length S1.cap]
  | 12 => v = .bool r1
  | 13 => v = .bool (!r1)
  | 14 => v = .bool (!r1)
  | _ => False
theorem trP22_mono (T rb N rx b o c o0 o1 : Nat) (S0 S1 : RV) (r0 r1 : Bool) : ∀ i v w w', trP22 T rb N rx b o c o0 o1 S0 S1 r0 r1 i v w → Below w.heap.size w w' → trP22 T rb N rx b o c o0 o1 S0 S1 r0 r1 i v w' := by
  intro i v w w' h hb
  match i, h with
  | 0, h => exact h
  | 1, h => exact h
  | 2, h => exact h
  | 3, h => exact h
  | 4, h => exact h
  | 5, h => exact h
  | 6, h => exact h
  | 7, h => exact h
  | 8, h => exact h
  | 9, h => exact h
  | 10, h => exact h
  | 11, h => exact h
  | 12, h => exact h
  | 13, h => exact h
  | 14, h => exact h
  | (k + 15), h => exact h.elim

section
variable {T X N : Nat} {L : List Pk}
set_option maxRecDepth 100000 in
set_option maxHeartbeats 16000000 in
theorem without1_any (R : RV) (hn : R.args.length = 2) (hR : ∀ a ∈ R.args, IsOk T X N L a) (rx9 rb : Nat) (f : Nat → Bool) (U : World) (hA : AskT T X N rb L f U) (hT : RTree U.heap.size U R) (hb : RBx rx9 R U) :
    Calls Tryz.prog 187 #[askW T rb N, .pointer (some ⟨rx9, 0, none⟩)] U fun e w' => e = .returned (.bool (Tr.sat N (pvL L) (R.args[0]'(by omega)).tree f && !Tr.sat N (pvL L) (R.args[1]'(by omega)).tree f)) ∧ Below U.heap.size U w' := by
  have b1 := (Below.refl U.heap.size U).alloc (Nat.le_refl _) (.cells #[.pointer (some ⟨T, 0, none⟩), .slice (some ⟨rb, 0, none⟩) N N] 145)
  have a1 := ABox.new T rb N U 145
  obtain ⟨b, o, hA0, _⟩ := (show RRow U.heap.size U R.addr R.cap R.args from ⟨hT.row, hT.sub⟩).at_ (k := 0) (by omega)
  have IS0 := Lib.hid (fun W' (hb : Below U.heap.size U W') => hR (R.args[0]'(by omega)) (List.getElem_mem _) rb f W' (hA.then hb) (((hT.sub _ (List.getElem_mem _)).keeps hb).more hb.size))
  have RC0 := Lib.hid (fun W' (hb : Below U.heap.size U W') => rrow_cells (((show RRow U.heap.size U R.addr R.cap R.args from ⟨hT.row, hT.sub⟩).below hb)) hA0 (k := 0) (by omega))
  obtain ⟨o0, ho0⟩ : ∃ o0, o0 = o + 0 * 7 := ⟨_, rfl⟩
  rw [← ho0] at RC0
  have HO0 := Lib.hid ho0
  have IS1 := Lib.hid (fun W' (hb : Below U.heap.size U W') => hR (R.args[1]'(by omega)) (List.getElem_mem _) rb f W' (hA.then hb) (((hT.sub _ (List.getElem_mem _)).keeps hb).more hb.size))
  have RC1 := Lib.hid (fun W' (hb : Below U.heap.size U W') => rrow_cells (((show RRow U.heap.size U R.addr R.cap R.args from ⟨hT.row, hT.sub⟩).below hb)) hA0 (k := 1) (by omega))
  obtain ⟨o1, ho1⟩ : ∃ o1, o1 = o + 1 * 7 := ⟨_, rfl⟩
  rw [← ho1] at RC1
  have HO1 := Lib.hid ho1
  unfold askW RV.val at IS0 IS1
  unfold askW
  have x6 := hb.2.2.2.2.2.2.2
  have xl := hb.1
  clear hA hT hR hb
  generalize (R.args[0]'(by omega)) = S0 at *
  generalize Tr.sat N (pvL L) S0.tree f = r0 at *
  generalize (R.args[1]'(by omega)) = S1 at *
  generalize Tr.sat N (pvL L) S1.tree f = r1 at *
  clear ho0 ho1
  rw [hA0, hn] at x6
  clear hn
  generalize R.cap = c at *
  go_enter Tryz.func187, Tryz.ntmps187
  go_wp2_with fail
  obtain ⟨V, hV⟩ : ∃ V, V = U.alloc (.cells #[.pointer (some ⟨T, 0, none⟩), .slice (some ⟨rb, 0, none⟩) N N] 145) := ⟨_, rfl⟩
  rw [← hV] at a1 b1 ⊢
  have AX := Lib.hid a1
  have BZ := Lib.hid b1
  have RXL := Lib.hid (show rx9 < V.heap.size from Nat.lt_of_lt_of_le xl b1.size)
  have RX6 := Lib.hid ((b1.cell (p := ⟨rx9, 6, none⟩) xl).trans x6)
  clear hV a1 b1 x6 xl
  have BV := Lib.hid (Below.refl V.heap.size V)
  have IS0 := Lib.hid (fun W' (hb : Below V.heap.size V W') => IS0.out W' (BZ.out.trans (hb.mono BZ.out.size)))
  have RC0 := Lib.hid (fun W' (hb : Below V.heap.size V W') => RC0.out W' (BZ.out.trans (hb.mono BZ.out.size)))
  have IS1 := Lib.hid (fun W' (hb : Below V.heap.size V W') => IS1.out W' (BZ.out.trans (hb.mono BZ.out.size)))
  have RC1 := Lib.hid (fun W' (hb : Below V.heap.size V W') => RC1.out W' (BZ.out.trans (hb.mono BZ.out.size)))
  cases r0
  · refine wp_region_tail (PP := trP21 T rb N (rx9) b o c o0 S0 false) 15 rfl (by kernel_rfl) (by kernel_rfl) (by decide) (by decide) (trP21_mono T rb N (rx9) b o c o0 S0 false) (fun _ => undef) (by simp [fillV, put_someT, setIfInBounds_toArray, set_cons_zero, set_cons_succ]) ?_ ?_
    · intro i o vs W hi ho he hBW K hK
      simp only [take_succ_cons, take_zero, fillV, put_someT, setIfInBounds_toArray, set_cons_zero, set_cons_succ] at hK ⊢
      have BW := Lib.hid (BV.out.trans (hBW.mono BV.out.size))
      have AXW := Lib.hid (AX.out.then BW.out)
      have R6W := Lib.hid ((BW.out.cell (p := ⟨rx9, 6, none⟩) RXL.out).trans RX6.out)
      obtain rfl | rfl | rfl | rfl | rfl | rfl | rfl | rfl | rfl | rfl | rfl | rfl | rfl | rfl | rfl := (show i = 0 ∨ i = 1 ∨ i = 2 ∨ i = 3 ∨ i = 4 ∨ i = 5 ∨ i = 6 ∨ i = 7 ∨ i = 8 ∨ i = 9 ∨ i = 10 ∨ i = 11 ∨ i = 12 ∨ i = 13 ∨ i = 14 by exact (by have : i < 15 := hi; omega))
      · simp only [getElem?_toArray, getElem?_cons_zero, getElem?_cons_succ, Option.some.injEq] at ho
        subst ho
        rw [if_pos (by rfl)]
        simp only [put_someT, setIfInBounds_toArray, set_cons_zero, set_cons_succ] at hK
        have HK := Lib.hid hK
        clear hK he hi hBW
        have a0 := AXW.out.2.1
        have a1 := AXW.out.2.2
        go_simp
        exact HK.out _ _ rfl (Below.refl _ _)
      · simp only [getElem?_toArray, getElem?_cons_zero, getElem?_cons_succ, Option.some.injEq] at ho
        subst ho
        rw [if_pos (by rfl)]
        simp only [put_someT, setIfInBounds_toArray, set_cons_zero, set_cons_succ] at hK
        have HK := Lib.hid hK
        clear hK he hi hBW
        go_simp
        exact HK.out _ _ (by first | rfl | simp [trP21]) (Below.refl _ _)
      · simp only [getElem?_toArray, getElem?_cons_zero, getElem?_cons_succ, Option.some.injEq] at ho
        subst ho
        have e1 : vs 1 = .pointer (some ⟨rx9, 6, none⟩) := (he ⟨1, .data⟩ (by simp) rfl : trP21 T rb N (rx9) b o c o0 S0 false 1 (vs 1) W)
        rw [e1] at hK ⊢
        rw [if_pos (by rfl)]
        simp only [put_someT, setIfInBounds_toArray, set_cons_zero, set_cons_succ] at hK
        have HK := Lib.hid hK
        clear hK he hi hBW
        have cx := R6W.out
        go_simp
        exact HK.out _ _ rfl (Below.refl _ _)
      · simp only [getElem?_toArray, getElem?_cons_zero, getElem?_cons_succ, Option.some.injEq] at ho
        subst ho
        have e2 : vs 2 = .slice (some ⟨b, o, none⟩) 2 c := (he ⟨2, .data⟩ (by simp) rfl : trP21 T rb N (rx9) b o c o0 S0 false 2 (vs 2) W)
        rw [e2] at hK ⊢
        rw [if_pos (by rfl)]
        simp only [put_someT, setIfInBounds_toArray, set_cons_zero, set_cons_succ] at hK
        have HK := Lib.hid hK
        clear hK he hi hBW
        go_simp
        exact HK.out _ _ (by rw [HO0.out]; rfl) (Below.refl _ _)
      · simp only [getElem?_toArray, getElem?_cons_zero, getElem?_cons_succ, Option.some.injEq] at ho
        subst ho
        have e3 : vs 3 = .pointer (some ⟨b, o0, none⟩) := (he ⟨3, .data⟩ (by simp) rfl : trP21 T rb N (rx9) b o c o0 S0 false 3 (vs 3) W)
        rw [e3] at hK ⊢
        rw [if_pos (by rfl)]
        simp only [put_someT, setIfInBounds_toArray, set_cons_zero, set_cons_succ] at hK
        have HK := Lib.hid hK
        clear hK he hi hBW
        obtain ⟨d0, d1, d2, d3, d4, d5, d6⟩ := RC0.out W BW.out
        go_simp
        exact HK.out _ _ rfl (Below.refl _ _)
      · simp only [getElem?_toArray, getElem?_cons_zero, getElem?_cons_succ, Option.some.injEq] at ho
        subst ho
        have e0 : vs 0 = .agg #[.pointer (some ⟨T, 0, none⟩), .slice (some ⟨rb, 0, none⟩) N N] := (he ⟨0, .data⟩ (by simp) rfl : trP21 T rb N (rx9) b o c o0 S0 false 0 (vs 0) W)
        rw [e0] at hK ⊢
        have e4 : vs 4 = .agg #[.int .u8 S0.kind, .string (bs S0.dep.name), .int .u8 S0.dep.op, .int .i64 S0.dep.evr.epoch, .string (bs S0.dep.evr.ver), .string (bs S0.dep.evr.rel), .slice S0.addr S0.args.length S0.cap] := (he ⟨4, .data⟩ (by simp) rfl : trP21 T rb N (rx9) b o c o0 S0 false 4 (vs 4) W)
        rw [e4] at hK ⊢
        rw [if_pos (by rfl)]
        simp only [put_someT, setIfInBounds_toArray, set_cons_zero, set_cons_succ] at hK
        have HK := Lib.hid hK
        clear hK he hi hBW
        have ISW := IS0.out W BW.out
        go_simp
        go_at_call 95
        refine ISW.mono ?_
        rintro en w9 ⟨rfl, h⟩
        go_simp
        exact HK.out _ _ rfl h
      · simp only [getElem?_toArray, getElem?_cons_zero, getElem?_cons_succ, Option.some.injEq] at ho
        subst ho
        have e5 : vs 5 = .bool false := (he ⟨5, .data⟩ (by simp) rfl : trP21 T rb N (rx9) b o c o0 S0 false 5 (vs 5) W)
        rw [e5] at hK ⊢
        rw [if_pos (by rfl)]
        simp only [put_someT, setIfInBounds_toArray, set_cons_zero, set_cons_succ] at hK
        have HK := Lib.hid hK
        clear hK he hi hBW
        go_simp
        exact HK.out _ _ (by first | rfl | simp [trP21]) (Below.refl _ _)
      · simp only [getElem?_toArray, getElem?_cons_zero, getElem?_cons_succ, Option.some.injEq] at ho
        subst ho
        have e6 : vs 6 = .bool false := (he ⟨6, .guard⟩ (by simp) rfl : trP21 T rb N (rx9) b o c o0 S0 false 6 (vs 6) W)
        rw [e6] at hK ⊢
        rw [if_neg (by exact Bool.false_ne_true)]
        exact hK _ _ rfl (Below.refl _ _)
      · simp only [getElem?_toArray, getElem?_cons_zero, getElem?_cons_succ, Option.some.injEq] at ho
        subst ho
        have e6 : vs 6 = .bool false := (he ⟨6, .guard⟩ (by simp) rfl : trP21 T rb N (rx9) b o c o0 S0 false 6 (vs 6) W)
        rw [e6] at hK ⊢
        rw [if_neg (by exact Bool.false_ne_true)]
        exact hK _ _ rfl (Below.refl _ _)
      · simp only [getElem?_toArray, getElem?_cons_zero, getElem?_cons_succ, Option.some.injEq] at ho
        subst ho
        have e8 : vs 8 = undef := (he ⟨8, .data⟩ (by simp) rfl : trP21 T rb N (rx9) b o c o0 S0 false 8 (vs 8) W)
        rw [e8] at hK ⊢
        have e6 : vs 6 = .bool false := (he ⟨6, .guard⟩ (by simp) rfl : trP21 T rb N (rx9) b o c o0 S0 false 6 (vs 6) W)
        rw [e6] at hK ⊢
        rw [if_neg (by exact Bool.false_ne_true)]
        exact hK _ _ rfl (Below.refl _ _)
      · simp only [getElem?_toArray, getElem?_cons_zero, getElem?_cons_succ, Option.some.injEq] at ho
        subst ho
        have e9 : vs 9 = undef := (he ⟨9, .data⟩ (by simp) rfl : trP21 T rb N (rx9) b o c o0 S0 false 9 (vs 9) W)
        rw [e9] at hK ⊢
        have e6 : vs 6 = .bool false := (he ⟨6, .guard⟩ (by simp) rfl : trP21 T rb N (rx9) b o c o0 S0 false 6 (vs 6) W)
        rw [e6] at hK ⊢
        rw [if_neg (by exact Bool.false_ne_true)]
        exact hK _ _ rfl (Below.refl _ _)
      · simp only [getElem?_toArray, getElem?_cons_zero, getElem?_cons_succ, Option.some.injEq] at ho
        subst ho
        have e10 : vs 10 = undef := (he ⟨10, .data⟩ (by simp) rfl : trP21 T rb N (rx9) b o c o0 S0 false 10 (vs 10) W)
        rw [e10] at hK ⊢
        have e6 : vs 6 = .bool false := (he ⟨6, .guard⟩ (by simp) rfl : trP21 T rb N (rx9) b o c o0 S0 false 6 (vs 6) W)
        rw [e6] at hK ⊢
        rw [if_neg (by exact Bool.false_ne_true)]
        exact hK _ _ rfl (Below.refl _ _)
      · simp only [getElem?_toArray, getElem?_cons_zero, getElem?_cons_succ, Option.some.injEq] at ho
        subst ho
        have e7 : vs 7 = undef := (he ⟨7, .data⟩ (by simp) rfl : trP21 T rb N (rx9) b o c o0 S0 false 7 (vs 7) W)
        rw [e7] at hK ⊢
        have e11 : vs 11 = undef := (he ⟨11, .data⟩ (by simp) rfl : trP21 T rb N (rx9) b o c o0 S0 false 11 (vs 11) W)
        rw [e11] at hK ⊢
        have e6 : vs 6 = .bool false := (he ⟨6, .guard⟩ (by simp) rfl : trP21 T rb N (rx9) b o c o0 S0 false 6 (vs 6) W)
        rw [e6] at hK ⊢
        rw [if_neg (by exact Bool.false_ne_true)]
        exact hK _ _ rfl (Below.refl _ _)
      · simp only [getElem?_toArray, getElem?_cons_zero, getElem?_cons_succ, Option.some.injEq] at ho
        subst ho
        have e12 : vs 12 = undef := (he ⟨12, .data⟩ (by simp) rfl : trP21 T rb N (rx9) b o c o0 S0 false 12 (vs 12) W)
        rw [e12] at hK ⊢
        have e6 : vs 6 = .bool false := (he ⟨6, .guard⟩ (by simp) rfl : trP21 T rb N (rx9) b o c o0 S0 false 6 (vs 6) W)
        rw [e6] at hK ⊢
        rw [if_neg (by exact Bool.false_ne_true)]
        exact hK _ _ rfl (Below.refl _ _)
      · simp only [getElem?_toArray, getElem?_cons_zero, getElem?_cons_succ, Option.some.injEq] at ho
        subst ho
        have e6 : vs 6 = .bool false := (he ⟨6, .data⟩ (by simp) rfl : trP21 T rb N (rx9) b o c o0 S0 false 6 (vs 6) W)
        rw [e6] at hK ⊢
        have e13 : vs 13 = undef := (he ⟨13, .data⟩ (by simp) rfl : trP21 T rb N (rx9) b o c o0 S0 false 13 (vs 13) W)
        rw [e13] at hK ⊢
        rw [if_pos (by rfl)]
        simp only [put_someT, setIfInBounds_toArray, set_cons_zero, set_cons_succ] at hK
        have HK := Lib.hid hK
        clear hK he hi hBW
        go_simp
        exact HK.out _ _ (by first | rfl | simp [trP21]) (Below.refl _ _)
    · intro vs W hall hBW
      have eo : vs 14 = .bool false := hall 14 (by decide)
      simp only [take_succ_cons, take_zero, List.drop_succ_cons, List.drop_zero, fillV, put_someT, put_noneC, setIfInBounds_toArray, set_cons_zero, set_cons_succ]
      rw [eo]
      generalize vs 0 = y0
      generalize vs 1 = y1
      generalize vs 2 = y2
      generalize vs 3 = y3
      generalize vs 4 = y4
      generalize vs 5 = y5
      generalize vs 6 = y6
      generalize vs 7 = y7
      generalize vs 8 = y8
      generalize vs 9 = y9
      generalize vs 10 = y10
      generalize vs 11 = y11
      generalize vs 12 = y12
      generalize vs 13 = y13
      have BX := Lib.hid (BV.out.trans (hBW.mono BV.out.size))
      clear hall hBW eo
      go_wp2_with fail
      go_ret
      exact ⟨by simp, BZ.out.trans (BX.out.mono BZ.out.size)⟩
  · refine wp_region_tail (PP := trP22 T rb N (rx9) b o c o0 o1 S0 S1 true r1) 15 rfl (by kernel_rfl) (by kernel_rfl) (by decide) (by decide) (trP22_mono T rb N (rx9) b o c o0 o1 S0 S1 true r1) (fun _ => undef) (by simp [fillV, put_someT, setIfInBounds_toArray, set_cons_zero, set_cons_succ]) ?_ ?_
    · intro i o vs W hi ho he hBW K hK
      simp only [take_succ_cons, take_zero, fillV, put_someT, setIfInBounds_toArray, set_cons_zero, set_cons_succ] at hK ⊢
      have BW := Lib.hid (BV.out.trans (hBW.mono BV.out.size))
      have AXW := Lib.hid (AX.out.then BW.out)
      have R6W := Lib.hid ((BW.out.cell (p := ⟨rx9, 6, none⟩) RXL.out).trans RX6.out)
      obtain rfl | rfl | rfl | rfl | rfl | rfl | rfl | rfl | rfl | rfl | rfl | rfl | rfl | rfl | rfl := (show i = 0 ∨ i = 1 ∨ i = 2 ∨ i = 3 ∨ i = 4 ∨ i = 5 ∨ i = 6 ∨ i = 7 ∨ i = 8 ∨ i = 9 ∨ i = 10 ∨ i = 11 ∨ i = 12 ∨ i = 13 ∨ i = 14 by exact (by have : i < 15 := hi; omega))
      · simp only [getElem?_toArray, getElem?_cons_zero, getElem?_cons_succ, Option.some.injEq] at ho
        subst ho
        rw [if_pos (by rfl)]
        simp only [put_someT, setIfInBounds_toArray, set_cons_zero, set_cons_succ] at hK
        have HK := Lib.hid hK
        clear hK he hi hBW
        have a0 := AXW.out.2.1
        have a1 := AXW.out.2.2
        go_simp
        exact HK.out _ _ rfl (Below.refl _ _)
      · simp only [getElem?_toArray, getElem?_cons_zero, getElem?_cons_succ, Option.some.injEq] at ho
        subst ho
        rw [if_pos (by rfl)]
        simp only [put_someT, setIfInBounds_toArray, set_cons_zero, set_cons_succ] at hK
        have HK := Lib.hid hK
        clear hK he hi hBW
        go_simp
        exact HK.out _ _ (by first | rfl | simp [trP22]) (Below.refl _ _)
      · simp only [getElem?_toArray, getElem?_cons_zero, getElem?_cons_succ, Option.some.injEq] at ho
        subst ho
        have e1 : vs 1 = .pointer (some ⟨rx9, 6, none⟩) := (he ⟨1, .data⟩ (by simp) rfl : trP22 T rb N (rx9) b o c o0 o1 S0 S1 true r1 1 (vs 1) W)
        rw [e1] at hK ⊢
        rw [if_pos (by rfl)]
        simp only [put_someT, setIfInBounds_toArray, set_cons_zero, set_cons_succ] at hK
        have HK := Lib.hid hK
        clear hK he hi hBW
        have cx := R6W.out
        go_simp
        exact HK.out _ _ rfl (Below.refl _ _)
      · simp only [getElem?_toArray, getElem?_cons_zero, getElem?_cons_succ, Option.some.injEq] at ho
        subst ho
        have e2 : vs 2 = .slice (some ⟨b, o, none⟩) 2 c := (he ⟨2, .data⟩ (by simp) rfl : trP22 T rb N (rx9) b o c o0 o1 S0 S1 true r1 2 (vs 2) W)
        rw [e2] at hK ⊢
        rw [if_pos (by rfl)]
        simp only [put_someT, setIfInBounds_toArray, set_cons_zero, set_cons_succ] at hK
        have HK := Lib.hid hK
        clear hK he hi hBW
        go_simp
        exact HK.out _ _ (by rw [HO0.out]; rfl) (Below.refl _ _)
      · simp only [getElem?_toArray, getElem?_cons_zero, getElem?_cons_succ, Option.some.injEq] at ho
        subst ho
        have e3 : vs 3 = .pointer (some ⟨b, o0, none⟩) := (he ⟨3, .data⟩ (by simp) rfl : trP22 T rb N (rx9) b o c o0 o1 S0 S1 true r1 3 (vs 3) W)
        rw [e3] at hK ⊢
        rw [if_pos (by rfl)]
        simp only [put_someT, setIfInBounds_toArray, set_cons_zero, set_cons_succ] at hK
        have HK := Lib.hid hK
        clear hK he hi hBW
        obtain ⟨d0, d1, d2, d3, d4, d5, d6⟩ := RC0.out W BW.out
        go_simp
        exact HK.out _ _ rfl (Below.refl _ _)
      · simp only [getElem?_toArray, getElem?_cons_zero, getElem?_cons_succ, Option.some.injEq] at ho
        subst ho
        have e0 : vs 0 = .agg #[.pointer (some ⟨T, 0, none⟩), .slice (some ⟨rb, 0, none⟩) N N] := (he ⟨0, .data⟩ (by simp) rfl : trP22 T rb N (rx9) b o c o0 o1 S0 S1 true r1 0 (vs 0) W)
        rw [e0] at hK ⊢
        have e4 : vs 4 = .agg #[.int .u8 S0.kind, .string (bs S0.dep.name), .int .u8 S0.dep.op, .int .i64 S0.dep.evr.epoch, .string (bs S0.dep.evr.ver), .string (bs S0.dep.evr.rel), .slice S0.addr S0.args.length S0.cap] := (he ⟨4, .data⟩ (by simp) rfl : trP22 T rb N (rx9) b o c o0 o1 S0 S1 true r1 4 (vs 4) W)
        rw [e4] at hK ⊢
        rw [if_pos (by rfl)]
        simp only [put_someT, setIfInBounds_toArray, set_cons_zero, set_cons_succ] at hK
        have HK := Lib.hid hK
        clear hK he hi hBW
        have ISW := IS0.out W BW.out
        go_simp
        go_at_call 95
        refine ISW.mono ?_
        rintro en w9 ⟨rfl, h⟩
        go_simp
        exact HK.out _ _ rfl h
      · simp only [getElem?_toArray, getElem?_cons_zero, getElem?_cons_succ, Option.some.injEq] at ho
        subst ho
        have e5 : vs 5 = .bool true := (he ⟨5, .data⟩ (by simp) rfl : trP22 T rb N (rx9) b o c o0 o1 S0 S1 true r1 5 (vs 5) W)
        rw [e5] at hK ⊢
        rw [if_pos (by rfl)]
        simp only [put_someT, setIfInBounds_toArray, set_cons_zero, set_cons_succ] at hK
        have HK := Lib.hid hK
        clear hK he hi hBW
        go_simp
        exact HK.out _ _ (by first | rfl | simp [trP22]) (Below.refl _ _)
      · simp only [getElem?_toArray, getElem?_cons_zero, getElem?_cons_succ, Option.some.injEq] at ho
        subst ho
        have e6 : vs 6 = .bool true := (he ⟨6, .guard⟩ (by simp) rfl : trP22 T rb N (rx9) b o c o0 o1 S0 S1 true r1 6 (vs 6) W)
        rw [e6] at hK ⊢
        rw [if_pos (by rfl)]
        simp only [put_someT, setIfInBounds_toArray, set_cons_zero, set_cons_succ] at hK
        have HK := Lib.hid hK
        clear hK he hi hBW
        have a0 := AXW.out.2.1
        have a1 := AXW.out.2.2
        go_simp
        exact HK.out _ _ rfl (Below.refl _ _)
      · simp only [getElem?_toArray, getElem?_cons_zero, getElem?_cons_succ, Option.some.injEq] at ho
        subst ho
        have e6 : vs 6 = .bool true := (he ⟨6, .guard⟩ (by simp) rfl : trP22 T rb N (rx9) b o c o0 o1 S0 S1 true r1 6 (vs 6) W)
        rw [e6] at hK ⊢
        rw [if_pos (by rfl)]
        simp only [put_someT, setIfInBounds_toArray, set_cons_zero, set_cons_succ] at hK
        have HK := Lib.hid hK
        clear hK he hi hBW
        go_simp
        exact HK.out _ _ (by first | rfl | simp [trP22]) (Below.refl _ _)
      · simp only [getElem?_toArray, getElem?_cons_zero, getElem?_cons_succ, Option.some.injEq] at ho
        subst ho
        have e8 : vs 8 = .pointer (some ⟨rx9, 6, none⟩) := (he ⟨8, .data⟩ (by simp) rfl : trP22 T rb N (rx9) b o c o0 o1 S0 S1 true r1 8 (vs 8) W)
        rw [e8] at hK ⊢
        have e6 : vs 6 = .bool true := (he ⟨6, .guard⟩ (by simp) rfl : trP22 T rb N (rx9) b o c o0 o1 S0 S1 true r1 6 (vs 6) W)
        rw [e6] at hK ⊢
        rw [if_pos (by rfl)]
        simp only [put_someT, setIfInBounds_toArray, set_cons_zero, set_cons_succ] at hK
        have HK := Lib.hid hK
        clear hK he hi hBW
        have cx := R6W.out
        go_simp
        exact HK.out _ _ rfl (Below.refl _ _)
      · simp only [getElem?_toArray, getElem?_cons_zero, getElem?_cons_succ, Option.some.injEq] at ho
        subst ho
        have e9 : vs 9 = .slice (some ⟨b, o, none⟩) 2 c := (he ⟨9, .data⟩ (by simp) rfl : trP22 T rb N (rx9) b o c o0 o1 S0 S1 true r1 9 (vs 9) W)
        rw [e9] at hK ⊢
        have e6 : vs 6 = .bool true := (he ⟨6, .guard⟩ (by simp) rfl : trP22 T rb N (rx9) b o c o0 o1 S0 S1 true r1 6 (vs 6) W)
        rw [e6] at hK ⊢
        rw [if_pos (by rfl)]
        simp only [put_someT, setIfInBounds_toArray, set_cons_zero, set_cons_succ] at hK
        have HK := Lib.hid hK
        clear hK he hi hBW
        go_simp
        exact HK.out _ _ (by rw [HO1.out]; rfl) (Below.refl _ _)
      · simp only [getElem?_toArray, getElem?_cons_zero, getElem?_cons_succ, Option.some.injEq] at ho
        subst ho
        have e10 : vs 10 = .pointer (some ⟨b, o1, none⟩) := (he ⟨10, .data⟩ (by simp) rfl : trP22 T rb N (rx9) b o c o0 o1 S0 S1 true r1 10 (vs 10) W)
        rw [e10] at hK ⊢
        have e6 : vs 6 = .bool true := (he ⟨6, .guard⟩ (by simp) rfl : trP22 T rb N (rx9) b o c o0 o1 S0 S1 true r1 6 (vs 6) W)
        rw [e6] at hK ⊢
        rw [if_pos (by rfl)]
        simp only [put_someT, setIfInBounds_toArray, set_cons_zero, set_cons_succ] at hK
        have HK := Lib.hid hK
        clear hK he hi hBW
        obtain ⟨d0, d1, d2, d3, d4, d5, d6⟩ := RC1.out W BW.out
        go_simp
        exact HK.out _ _ rfl (Below.refl _ _)
      · simp only [getElem?_toArray, getElem?_cons_zero, getElem?_cons_succ, Option.some.injEq] at ho
        subst ho
        have e7 : vs 7 = .agg #[.pointer (some ⟨T, 0, none⟩), .slice (some ⟨rb, 0, none⟩) N N] := (he ⟨7, .data⟩ (by simp) rfl : trP22 T rb N (rx9) b o c o0 o1 S0 S1 true r1 7 (vs 7) W)
        rw [e7] at hK ⊢
        have e11 : vs 11 = .agg #[.int .u8 S1.kind, .string (bs S1.dep.name), .int .u8 S1.dep.op, .int .i64 S1.dep.evr.epoch, .string (bs S1.dep.evr.ver), .string (bs S1.dep.evr.rel), .slice S1.addr S1.args.length S1.cap] := (he ⟨11, .data⟩ (by simp) rfl : trP22 T rb N (rx9) b o c o0 o1 S0 S1 true r1 11 (vs 11) W)
        rw [e11] at hK ⊢
        have e6 : vs 6 = .bool true := (he ⟨6, .guard⟩ (by simp) rfl : trP22 T rb N (rx9) b o c o0 o1 S0 S1 true r1 6 (vs 6) W)
        rw [e6] at hK ⊢
        rw [if_pos (by rfl)]
        simp only [put_someT, setIfInBounds_toArray, set_cons_zero, set_cons_succ] at hK
        have HK := Lib.hid hK
        clear hK he hi hBW
        have ISW := IS1.out W BW.out
        go_simp
        go_at_call 95
        refine ISW.mono ?_
        rintro en w9 ⟨rfl, h⟩
        go_simp
        exact HK.out _ _ rfl h
      · simp only [getElem?_toArray, getElem?_cons_zero, getElem?_cons_succ, Option.some.injEq] at ho
        subst ho
        have e12 : vs 12 = .bool r1 := (he ⟨12, .data⟩ (by simp) rfl : trP22 T rb N (rx9) b o c o0 o1 S0 S1 true r1 12 (vs 12) W)
        rw [e12] at hK ⊢
        have e6 : vs 6 = .bool true := (he ⟨6, .guard⟩ (by simp) rfl : trP22 T rb N (rx9) b o c o0 o1 S0 S1 true r1 6 (vs 6) W)
        rw [e6] at hK ⊢
        rw [if_pos (by rfl)]
        simp only [put_someT, setIfInBounds_toArray, set_cons_zero, set_cons_succ] at hK
        have HK := Lib.hid hK
        clear hK he hi hBW
        go_simp
        exact HK.out _ _ (by first | rfl | simp [trP22]) (Below.refl _ _)
      · simp only [getElem?_toArray, getElem?_cons_zero, getElem?_cons_succ, Option.some.injEq] at ho
        subst ho
        have e6 : vs 6 = .bool true := (he ⟨6, .data⟩ (by simp) rfl : trP22 T rb N (rx9) b o c o0 o1 S0 S1 true r1 6 (vs 6) W)
        rw [e6] at hK ⊢
        have e13 : vs 13 = .bool (!r1) := (he ⟨13, .data⟩ (by simp) rfl : trP22 T rb N (rx9) b o c o0 o1 S0 S1 true r1 13 (vs 13) W)
        rw [e13] at hK ⊢
        rw [if_pos (by rfl)]
        simp only [put_someT, setIfInBounds_toArray, set_cons_zero, set_cons_succ] at hK
        have HK := Lib.hid hK
        clear hK he hi hBW
        go_simp
        exact HK.out _ _ (by first | rfl | simp [trP22]) (Below.refl _ _)
    · intro vs W hall hBW
      have eo : vs 14 = .bool (!r1) := hall 14 (by decide)
      simp only [take_succ_cons, take_zero, List.drop_succ_cons, List.drop_zero, fillV, put_someT, put_noneC, setIfInBounds_toArray, set_cons_zero, set_cons_succ]
      rw [eo]
      generalize vs 0 = y0
      generalize vs 1 = y1
      generalize vs 2 = y2
      generalize vs 3 = y3
      generalize vs 4 = y4
      generalize vs 5 = y5
      generalize vs 6 = y6
      generalize vs 7 = y7
      generalize vs 8 = y8
      generalize vs 9 = y9
      generalize vs 10 = y10
      generalize vs 11 = y11
      generalize vs 12 = y12
      generalize vs 13 = y13
      have BX := Lib.hid (BV.out.trans (hBW.mono BV.out.size))
      clear hall hBW eo
      go_wp2_with fail
      go_ret
      exact ⟨by simp, BZ.out.trans (BX.out.mono BZ.out.size)⟩
set_option maxRecDepth 100000 in
set_option maxHeartbeats 16000000 in
theorem without_any (R : RV) (hn : R.args.length = 2) (hR : ∀ a ∈ R.args, IsOk T X N L a) (rb : Nat) (f : Nat → Bool) (W : World) (hA : AskT T X N rb L f W) (hT : RTree W.heap.size W R) :
    Calls Tryz.prog 142 #[askW T rb N, R.val] W fun e w' => e = .returned (.bool (Tr.anyN N fun n => f n && (Tr.sat N (pvL L) (R.args[0]'(by omega)).tree (Tr.one n) && !Tr.sat N (pvL L) (R.args[1]'(by omega)).tree (Tr.one n)))) ∧ Below W.heap.size W w' := by
  have b1 := (Below.refl W.heap.size W).alloc (Nat.le_refl _) (.cells #[.pointer (some ⟨T, 0, none⟩), .slice (some ⟨rb, 0, none⟩) N N] 145)
  have b2 := b1.alloc (by simp) (.cells #[.int .u8 R.kind, .string (bs R.dep.name), .int .u8 R.dep.op, .int .i64 R.dep.evr.epoch, .string (bs R.dep.evr.ver), .string (bs R.dep.evr.rel), .slice R.addr R.args.length R.cap] 39)
  have bb := (Below.refl _ (W.alloc (.cells #[.pointer (some ⟨T, 0, none⟩), .slice (some ⟨rb, 0, none⟩) N N] 145))).alloc (Nat.le_refl _) (.cells #[.int .u8 R.kind, .string (bs R.dep.name), .int .u8 R.dep.op, .int .i64 R.dep.evr.epoch, .string (bs R.dep.evr.ver), .string (bs R.dep.evr.rel), .slice R.addr R.args.length R.cap] 39)
  have RB := RBx.new R (W.alloc (.cells #[.pointer (some ⟨T, 0, none⟩), .slice (some ⟨rb, 0, none⟩) N N] 145))
  rw [World.size_alloc] at RB
  obtain ⟨_, a0, a1⟩ := (ABox.new T rb N W 145).then bb
  have ON := Lib.hid (one_any (T := T) (X := X) (L := L) 187 (fun _ _ => rfl) #[.pointer (some ⟨W.heap.size + 1, 0, none⟩)] (fun n => (Tr.sat N (pvL L) (R.args[0]'(by omega)).tree (Tr.one n) && !Tr.sat N (pvL L) (R.args[1]'(by omega)).tree (Tr.one n))) rb f _ (hA.then b2) (fun n _ rb' W' hB hA' =>
    without1_any R hn hR (W.heap.size + 1) rb' (Tr.one n) W' hA' ((hT.keeps (b2.trans (hB.mono b2.size))).more (b2.trans (hB.mono b2.size)).size) (RB.then hB)))
  unfold askW at *
  unfold RV.val
  have B2 := Lib.hid b2
  clear hA hT hR b1 b2 bb RB
  generalize (Tr.anyN N fun n => f n && (Tr.sat N (pvL L) (R.args[0]'(by omega)).tree (Tr.one n) && !Tr.sat N (pvL L) (R.args[1]'(by omega)).tree (Tr.one n))) = r at *
  clear hn
  go_enter Tryz.func142, Tryz.ntmps142
  go_wp2_with fail
  go_at_call 185
  refine ON.out.mono ?_
  rintro e w2 ⟨rfl, h⟩
  have hB := B2.out.trans (h.mono B2.out.size)
  clear h
  go_wp2_with fail
  go_ret
  exact ⟨rfl, hB⟩
set_option maxRecDepth 100000 in
set_option maxHeartbeats 16000000 in
theorem atom1_any (b rb : Nat) (f : Nat → Bool) (W : World) (n : Nat) (hn : n < N) (hA : AskT T X N rb L f W) (hb : ABox b T rb N W) :
    Calls Tryz.prog 183 #[.int .i64 (n : Int), .pointer (some ⟨b, 0, none⟩)] W fun e w' => e = .returned (.bool (f n)) ∧ Below W.heap.size W w' := by
  have r0 := (hA.row n hn).1
  obtain ⟨_, a0, a1⟩ := hb
  have i0 : (0 : Int) ≤ (n : Int) := by omega
  have i1 : (n : Int) < (N : Int) := by omega
  generalize f n = fn at *
  clear hA hn
  go_enter Tryz.func183, Tryz.ntmps183
  go_wp2_with fail
  go_ret
  exact ⟨rfl, Below.refl _ _⟩
end
end Go.Proofs.YteobmfpbgnmffaaGreatDoor
