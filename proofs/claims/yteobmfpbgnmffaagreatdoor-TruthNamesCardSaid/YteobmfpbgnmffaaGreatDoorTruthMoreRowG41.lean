/- TrIs8, TrSat -/
import Derived.Test.YteobmfpbgnmffaaGreatDoorTruthMoreRowG39
import Derived.Test.YteobmfpbgnmffaaGreatDoorTruthMoreRowG40
set_option linter.unusedSimpArgs false
set_option linter.unusedVariables false
open List (getElem?_toArray getElem?_cons_zero getElem?_cons_succ setIfInBounds_toArray set_cons_zero set_cons_succ take_succ_cons take_zero)
namespace Go.Proofs.YteobmfpbgnmffaaGreatDoor
section
/- Walks: whether a state satisfies a rich dependency, whether a package alone does, and who (truth: Satisfies, Alone, Who). -/



open Go.RowKit Go.Shelf
set_option linter.unusedVariables false

section
variable {T X N : Nat} {L : List Pk}
theorem parts_ge (l : List RV) : l.length ≤ partsL (treeL l) := by
  induction l with
  | nil => exact Nat.zero_le _
  | cons a l ih =>
    rw [treeL, partsL, List.length_cons]
    have : 1 ≤ a.tree.parts := by cases a; rw [RV.tree, RT.parts]; omega
    omega
theorem parts_mem {l : List RV} {a : RV} (h : a ∈ l) : a.tree.parts ≤ partsL (treeL l) := by
  induction l with
  | nil => cases h
  | cons b l ih =>
    rw [treeL, partsL]
    rcases List.mem_cons.1 h with rfl | h
    · omega
    · have := ih h; omega
theorem parts_rv (R : RV) : R.tree.parts = 1 + partsL (treeL R.args) := by
  cases R
  rw [RV.tree, RT.parts]
  rfl
theorem is_any : ∀ (n : Nat) (R : RV), R.tree.parts ≤ n → n ≤ 1000000 → R.tree.okB = true → IsOk T X N L R
  | 0, R, h, _, _ => by rw [parts_rv] at h; omega
  | n + 1, R, h, hn, ho => by
    have hp := parts_rv R
    have hl := parts_ge R.args
    have h1 := ho
    rw [okB_rv] at h1
    obtain ⟨kk, hkk, hk⟩ : ∃ kk : Nat, R.kind = (kk : Int) ∧ 1 ≤ kk ∧ kk ≤ 7 := by
      by_cases e : R.kind = 1
      · exact ⟨1, e, by omega, by omega⟩
      · rw [if_neg e] at h1
        simp only [Bool.and_eq_true, decide_eq_true_eq] at h1
        have := h1.1
        exact ⟨R.kind.toNat, by omega, by omega, by omega⟩
    refine is_step R kk hkk hk ho (by omega) fun a ha => is_any n a (by have := parts_mem ha; omega) (by omega) ?_
    by_cases e : R.kind = 1
    · rw [if_pos e, Bool.and_eq_true, List.isEmpty_iff] at h1
      have : (treeL R.args).length = 0 := by rw [h1.1]; rfl
      rw [treeL_len] at this
      have := List.length_pos_of_mem ha
      omega
    · rw [if_neg e] at h1
      simp only [Bool.and_eq_true] at h1
      refine okL_iff.1 h1.2.2.2 _ ?_
      rw [treeL_map]
      exact List.mem_map_of_mem ha
end
end
section
/- Walks: whether a state satisfies a rich dependency (truth: Satisfies). -/


open Go.RowKit Go.Shelf
set_option linter.unusedVariables false

def stT (T X N m c : Nat) (A : Option Addr) (L : List Pk) (f : Nat → Bool) (R : RV) (r : Bool) (i : Nat) (v : Value) (W : World) : Prop := match i with
  | 0 => v = .pointer (some ⟨T, 0, none⟩)
  | 1 => v = .bool true
  | 2 => v = .bool true
  | 3 => v = .agg #[.int .u8 R.kind, .string (bs R.dep.name), .int .u8 R.dep.op, .int .i64 R.dep.evr.epoch, .string (bs R.dep.evr.ver), .string (bs R.dep.evr.rel), .slice R.addr R.args.length R.cap]
  | 4 => v = .bool true
  | 5 => v = .bool true
  | 6 => v = .bool true
  | 7 => v = .pointer (some ⟨T, 0, none⟩)
  | 8 => v = .slice A m c
  | 9 => ∃ rb, v = .agg #[.pointer (some ⟨T, 0, none⟩), .slice (some ⟨rb, 0, none⟩) N N] ∧ AskT T X N rb L f W
  | 10 => v = .agg #[.int .u8 R.kind, .string (bs R.dep.name), .int .u8 R.dep.op, .int .i64 R.dep.evr.epoch, .string (bs R.dep.evr.ver), .string (bs R.dep.evr.rel), .slice R.addr R.args.length R.cap]
  | 11 => v = .bool r
  | 12 => v = .bool r
  | _ => False
theorem stT_mono (T X N m c : Nat) (A : Option Addr) (L : List Pk) (f : Nat → Bool) (R : RV) (r : Bool) : ∀ i v w w', stT T X N m c A L f R r i v w → Below w.heap.size w w' → stT T X N m c A L f R r i v w' := by
  intro i v w w' h hb
  match i, h with
  | 0, h => exact h
  | 1, h => exact h
  | 2, h => exact h
  | 3, h => exact h
  | 4, h => exact h
  | 5, h => exact h
  | 6, h => exact h
  | 7, h => exact h
  | 8, h => exact h
  | 9, h => exact h.elim fun rb h => ⟨rb, h.1, h.2.then hb⟩
  | 10, h => exact h
  | 11, h => exact h
  | 12, h => exact h
  | (k + 13), h => exact h.elim
def stF (T X N m c : Nat) (A : Option Addr) (L : List Pk) (f : Nat → Bool) (R : RV) (r : Bool) (i : Nat) (v : Value) (W : World) : Prop := match i with
  | 0 => v = .pointer (some ⟨T, 0, none⟩)
  | 1 => v = .bool true
  | 2 => v = .bool true
  | 3 => v = .agg #[.int .u8 R.kind, .string (bs R.dep.name), .int .u8 R.dep.op, .int .i64 R.dep.evr.epoch, .string (bs R.dep.evr.ver), .string (bs R.dep.evr.rel), .slice R.addr R.args.length R.cap]
  | 4 => v = .bool false
  | 5 => v = .bool false
  | 6 => v = .bool false
  | 7 => v = undef
  | 8 => v = undef
  | 9 => v = undef
  | 10 => v = undef
  | 11 => v = undef
  | 12 => v = .bool false
  | _ => False
theorem stF_mono (T X N m c : Nat) (A : Option Addr) (L : List Pk) (f : Nat → Bool) (R : RV) (r : Bool) : ∀ i v w w', stF T X N m c A L f R r i v w → Below w.heap.size w w' → stF T X N m c A L f R r i v w' := by
  intro i v w w' h hb
  match i, h with
  | 0, h => exact h
  | 1, h => exact h
  | 2, h => exact h
  | 3, h => exact h
  | 4, h => exact h
  | 5, h => exact h
  | 6, h => exact h
  | 7, h => exact h
  | 8, h => exact h
  | 9, h => exact h
  | 10, h => exact h
  | 11, h => exact h
  | 12, h => exact h
  | (k + 13), h => exact h.elim

set_option maxRecDepth 100000 in
set_option maxHeartbeats 16000000 in
theorem tsat_any {T X N : Nat} {L : List Pk} {w : World} (hT : TruthAt T X N L w) (hI : WhIn w) (A : Option Addr) (c : Nat) (S : List Int) (hS : Rd encI 1 w.heap.size A c S w) (R : RV) (hR : RTree w.heap.size w R) (hp : R.tree.parts ≤ 1000000) :
    Calls Tryz.prog 40 #[.pointer (some ⟨T, 0, none⟩), .slice A S.length c, R.val] w fun e w' => e = .returned (.bool (Tr.satS N (pvL L) S R.tree)) ∧ Below w.heap.size w w' := by
  have b1 := (Below.refl w.heap.size w).alloc (Nat.le_refl _) (.cells #[.int .u8 R.kind, .string (bs R.dep.name), .int .u8 R.dep.op, .int .i64 R.dep.evr.epoch, .string (bs R.dep.evr.ver), .string (bs R.dep.evr.rel), .slice R.addr R.args.length R.cap] 39)
  have RB := RBx.new R w
  have WH := Lib.hid (fun W (hb : Below w.heap.size w W) => rwholek_any R W hp ((hR.keeps hb).more hb.size) (hI.below hb))
  have ST := Lib.hid (fun W (hb : Below w.heap.size w W) => state_any (hT.then hb) A c S ((hS.below hb).more hb.size))
  have IS := Lib.hid (fun (hw : R.tree.whole = true) rb W (hb : Below w.heap.size w W) (hA : AskT T X N rb L (St.inS S) W) => is_any (T := T) (X := X) (N := N) (L := L) R.tree.parts R (Nat.le_refl _) hp (whole_ok hw) rb (St.inS S) W hA ((hR.keeps hb).more hb.size))
  obtain ⟨res, hres⟩ : ∃ res, res = Tr.satS N (pvL L) S R.tree := ⟨_, rfl⟩
  rw [← hres]
  unfold Tr.satS at hres
  have HRS := Lib.hid hres
  clear hT hI hS hR hp hres
  unfold askW at IS
  unfold RV.val at *
  generalize Tr.sat N (pvL L) R.tree (St.inS S) = r at *
  generalize R.tree.whole = wh at *
  generalize St.inS S = f at *
  generalize S.length = m at *
  have B1 := Lib.hid b1
  have RBV := Lib.hid RB
  clear b1 RB
  go_enter Tryz.func40, Tryz.ntmps40
  go_wp2_with fail
  obtain ⟨V, hV⟩ : ∃ V, V = w.alloc (.cells #[.int .u8 R.kind, .string (bs R.dep.name), .int .u8 R.dep.op, .int .i64 R.dep.evr.epoch, .string (bs R.dep.evr.ver), .string (bs R.dep.evr.rel), .slice R.addr R.args.length R.cap] 39) := ⟨_, rfl⟩
  rw [← hV] at B1 RBV ⊢
  clear hV
  have BZ := B1
  cases wh
  · clear IS ST
    refine wp_region_tail (PP := stF T X N m c A L f R r) 13 rfl (by kernel_rfl) (by kernel_rfl) (by decide) (by decide) (stF_mono T X N m c A L f R r) (fun _ => undef) (by simp [fillV, put_someT, setIfInBounds_toArray, set_cons_zero, set_cons_succ]) ?_ ?_
    · intro i o vs W hi ho he hBW K hK
      simp only [take_succ_cons, take_zero, fillV, put_someT, setIfInBounds_toArray, set_cons_zero, set_cons_succ] at hK ⊢
      have BW := Lib.hid (B1.out.trans (hBW.mono B1.out.size))
      have RBW := Lib.hid (RBV.out.then hBW)
      obtain rfl | rfl | rfl | rfl | rfl | rfl | rfl | rfl | rfl | rfl | rfl | rfl | rfl := (show i = 0 ∨ i = 1 ∨ i = 2 ∨ i = 3 ∨ i = 4 ∨ i = 5 ∨ i = 6 ∨ i = 7 ∨ i = 8 ∨ i = 9 ∨ i = 10 ∨ i = 11 ∨ i = 12 by exact (by have : i < 13 := hi; omega))
      · simp only [getElem?_toArray, getElem?_cons_zero, getElem?_cons_succ, Option.some.injEq] at ho
        subst ho
        rw [if_pos (by rfl)]
        simp only [put_someT, setIfInBounds_toArray, set_cons_zero, set_cons_succ] at hK
        have HK := Lib.hid hK
        clear hK he hi hBW
        go_simp
        exact HK.out _ _ (by first | rfl | simp [stF]) (Below.refl _ _)
      · simp only [getElem?_toArray, getElem?_cons_zero, getElem?_cons_succ, Option.some.injEq] at ho
        subst ho
        have e0 : vs 0 = .pointer (some ⟨T, 0, none⟩) := (he ⟨0, .data⟩ (by simp) rfl : stF T X N m c A L f R r 0 (vs 0) W)
        rw [e0] at hK ⊢
        rw [if_pos (by rfl)]
        simp only [put_someT, setIfInBounds_toArray, set_cons_zero, set_cons_succ] at hK
        have HK := Lib.hid hK
        clear hK he hi hBW
        go_simp
        exact HK.out _ _ (by first | rfl | simp [stF]) (Below.refl _ _)
      · simp only [getElem?_toArray, getElem?_cons_zero, getElem?_cons_succ, Option.some.injEq] at ho
        subst ho
        have e1 : vs 1 = .bool true := (he ⟨1, .data⟩ (by simp) rfl : stF T X N m c A L f R r 1 (vs 1) W)
        rw [e1] at hK ⊢
        rw [if_pos (by rfl)]
        simp only [put_someT, setIfInBounds_toArray, set_cons_zero, set_cons_succ] at hK
        have HK := Lib.hid hK
        clear hK he hi hBW
        go_simp
        exact HK.out _ _ (by first | rfl | simp [stF]) (Below.refl _ _)
      · simp only [getElem?_toArray, getElem?_cons_zero, getElem?_cons_succ, Option.some.injEq] at ho
        subst ho
        have e2 : vs 2 = .bool true := (he ⟨2, .guard⟩ (by simp) rfl : stF T X N m c A L f R r 2 (vs 2) W)
        rw [e2] at hK ⊢
        rw [if_pos (by rfl)]
        simp only [put_someT, setIfInBounds_toArray, set_cons_zero, set_cons_succ] at hK
        have HK := Lib.hid hK
        clear hK he hi hBW
        obtain ⟨_, c0, c1, c2, c3, c4, c5, c6⟩ := RBW.out
        go_simp
        exact HK.out _ _ rfl (Below.refl _ _)
      · simp only [getElem?_toArray, getElem?_cons_zero, getElem?_cons_succ, Option.some.injEq] at ho
        subst ho
        have e3 : vs 3 = .agg #[.int .u8 R.kind, .string (bs R.dep.name), .int .u8 R.dep.op, .int .i64 R.dep.evr.epoch, .string (bs R.dep.evr.ver), .string (bs R.dep.evr.rel), .slice R.addr R.args.length R.cap] := (he ⟨3, .data⟩ (by simp) rfl : stF T X N m c A L f R r 3 (vs 3) W)
        rw [e3] at hK ⊢
        have e2 : vs 2 = .bool true := (he ⟨2, .guard⟩ (by simp) rfl : stF T X N m c A L f R r 2 (vs 2) W)
        rw [e2] at hK ⊢
        rw [if_pos (by rfl)]
        simp only [put_someT, setIfInBounds_toArray, set_cons_zero, set_cons_succ] at hK
        have HK := Lib.hid hK
        clear hK he hi hBW
        have WHW := WH.out W BW.out
        go_simp
        go_at_call 45
        refine WHW.mono ?_
        rintro en w9 ⟨rfl, h⟩
        go_simp
        exact HK.out _ _ rfl h
      · simp only [getElem?_toArray, getElem?_cons_zero, getElem?_cons_succ, Option.some.injEq] at ho
        subst ho
        have e2 : vs 2 = .bool true := (he ⟨2, .data⟩ (by simp) rfl : stF T X N m c A L f R r 2 (vs 2) W)
        rw [e2] at hK ⊢
        have e4 : vs 4 = .bool false := (he ⟨4, .data⟩ (by simp) rfl : stF T X N m c A L f R r 4 (vs 4) W)
        rw [e4] at hK ⊢
        rw [if_pos (by rfl)]
        simp only [put_someT, setIfInBounds_toArray, set_cons_zero, set_cons_succ] at hK
        have HK := Lib.hid hK
        clear hK he hi hBW
        go_simp
        exact HK.out _ _ (by first | rfl | simp [stF]) (Below.refl _ _)
      · simp only [getElem?_toArray, getElem?_cons_zero, getElem?_cons_succ, Option.some.injEq] at ho
        subst ho
        have e5 : vs 5 = .bool false := (he ⟨5, .data⟩ (by simp) rfl : stF T X N m c A L f R r 5 (vs 5) W)
        rw [e5] at hK ⊢
        rw [if_pos (by rfl)]
        simp only [put_someT, setIfInBounds_toArray, set_cons_zero, set_cons_succ] at hK
        have HK := Lib.hid hK
        clear hK he hi hBW
        go_simp
        exact HK.out _ _ (by first | rfl | simp [stF]) (Below.refl _ _)
      · simp only [getElem?_toArray, getElem?_cons_zero, getElem?_cons_succ, Option.some.injEq] at ho
        subst ho
        have e6 : vs 6 = .bool false := (he ⟨6, .guard⟩ (by simp) rfl : stF T X N m c A L f R r 6 (vs 6) W)
        rw [e6] at hK ⊢
        rw [if_neg (by exact Bool.false_ne_true)]
        exact hK _ _ rfl (Below.refl _ _)
      · simp only [getElem?_toArray, getElem?_cons_zero, getElem?_cons_succ, Option.some.injEq] at ho
        subst ho
        have e6 : vs 6 = .bool false := (he ⟨6, .guard⟩ (by simp) rfl : stF T X N m c A L f R r 6 (vs 6) W)
        rw [e6] at hK ⊢
        rw [if_neg (by exact Bool.false_ne_true)]
        exact hK _ _ rfl (Below.refl _ _)
      · simp only [getElem?_toArray, getElem?_cons_zero, getElem?_cons_succ, Option.some.injEq] at ho
        subst ho
        have e7 : vs 7 = undef := (he ⟨7, .data⟩ (by simp) rfl : stF T X N m c A L f R r 7 (vs 7) W)
        rw [e7] at hK ⊢
        have e8 : vs 8 = undef := (he ⟨8, .data⟩ (by simp) rfl : stF T X N m c A L f R r 8 (vs 8) W)
        rw [e8] at hK ⊢
        have e6 : vs 6 = .bool false := (he ⟨6, .guard⟩ (by simp) rfl : stF T X N m c A L f R r 6 (vs 6) W)
        rw [e6] at hK ⊢
        rw [if_neg (by exact Bool.false_ne_true)]
        exact hK _ _ rfl (Below.refl _ _)
      · simp only [getElem?_toArray, getElem?_cons_zero, getElem?_cons_succ, Option.some.injEq] at ho
        subst ho
        have e6 : vs 6 = .bool false := (he ⟨6, .guard⟩ (by simp) rfl : stF T X N m c A L f R r 6 (vs 6) W)
        rw [e6] at hK ⊢
        rw [if_neg (by exact Bool.false_ne_true)]
        exact hK _ _ rfl (Below.refl _ _)
      · simp only [getElem?_toArray, getElem?_cons_zero, getElem?_cons_succ, Option.some.injEq] at ho
        subst ho
        have e9 : vs 9 = undef := (he ⟨9, .data⟩ (by simp) rfl : stF T X N m c A L f R r 9 (vs 9) W)
        rw [e9] at hK ⊢
        have e10 : vs 10 = undef := (he ⟨10, .data⟩ (by simp) rfl : stF T X N m c A L f R r 10 (vs 10) W)
        rw [e10] at hK ⊢
        have e6 : vs 6 = .bool false := (he ⟨6, .guard⟩ (by simp) rfl : stF T X N m c A L f R r 6 (vs 6) W)
        rw [e6] at hK ⊢
        rw [if_neg (by exact Bool.false_ne_true)]
        exact hK _ _ rfl (Below.refl _ _)
      · simp only [getElem?_toArray, getElem?_cons_zero, getElem?_cons_succ, Option.some.injEq] at ho
        subst ho
        have e6 : vs 6 = .bool false := (he ⟨6, .data⟩ (by simp) rfl : stF T X N m c A L f R r 6 (vs 6) W)
        rw [e6] at hK ⊢
        have e11 : vs 11 = undef := (he ⟨11, .data⟩ (by simp) rfl : stF T X N m c A L f R r 11 (vs 11) W)
        rw [e11] at hK ⊢
        rw [if_pos (by rfl)]
        simp only [put_someT, setIfInBounds_toArray, set_cons_zero, set_cons_succ] at hK
        have HK := Lib.hid hK
        clear hK he hi hBW
        go_simp
        exact HK.out _ _ (by first | rfl | simp [stF]) (Below.refl _ _)
    · intro vs W hall hBW
      have eo : vs 12 = .bool false := hall 12 (by decide)
      simp only [take_succ_cons, take_zero, List.drop_succ_cons, List.drop_zero, fillV, put_someT, put_noneC, setIfInBounds_toArray, set_cons_zero, set_cons_succ]
      rw [eo]
      generalize vs 0 = y0
      generalize vs 1 = y1
      generalize vs 2 = y2
      generalize vs 3 = y3
      generalize vs 4 = y4
      generalize vs 5 = y5
      generalize vs 6 = y6
      generalize vs 7 = y7
      generalize vs 8 = y8
      generalize vs 9 = y9
      generalize vs 10 = y10
      generalize vs 11 = y11
      have BX := Lib.hid (BZ.out.trans (hBW.mono BZ.out.size))
      clear hall hBW eo
      have HE := Lib.hid (show res = false from by rw [HRS.out]; rfl)
      go_wp2_with fail
      go_ret
      exact ⟨by rw [HE.out]; rfl, BX.out⟩
  · have IS := Lib.hid (IS.out rfl)
    refine wp_region_tail (PP := stT T X N m c A L f R r) 13 rfl (by kernel_rfl) (by kernel_rfl) (by decide) (by decide) (stT_mono T X N m c A L f R r) (fun _ => undef) (by simp [fillV, put_someT, setIfInBounds_toArray, set_cons_zero, set_cons_succ]) ?_ ?_
    · intro i o vs W hi ho he hBW K hK
      simp only [take_succ_cons, take_zero, fillV, put_someT, setIfInBounds_toArray, set_cons_zero, set_cons_succ] at hK ⊢
      have BW := Lib.hid (B1.out.trans (hBW.mono B1.out.size))
      have RBW := Lib.hid (RBV.out.then hBW)
      obtain rfl | rfl | rfl | rfl | rfl | rfl | rfl | rfl | rfl | rfl | rfl | rfl | rfl := (show i = 0 ∨ i = 1 ∨ i = 2 ∨ i = 3 ∨ i = 4 ∨ i = 5 ∨ i = 6 ∨ i = 7 ∨ i = 8 ∨ i = 9 ∨ i = 10 ∨ i = 11 ∨ i = 12 by exact (by have : i < 13 := hi; omega))
      · simp only [getElem?_toArray, getElem?_cons_zero, getElem?_cons_succ, Option.some.injEq] at ho
        subst ho
        rw [if_pos (by rfl)]
        simp only [put_someT, setIfInBounds_toArray, set_cons_zero, set_cons_succ] at hK
        have HK := Lib.hid hK
        clear hK he hi hBW
        go_simp
        exact HK.out _ _ (by first | rfl | simp [stT]) (Below.refl _ _)
      · simp only [getElem?_toArray, getElem?_cons_zero, getElem?_cons_succ, Option.some.injEq] at ho
        subst ho
        have e0 : vs 0 = .pointer (some ⟨T, 0, none⟩) := (he ⟨0, .data⟩ (by simp) rfl : stT T X N m c A L f R r 0 (vs 0) W)
        rw [e0] at hK ⊢
        rw [if_pos (by rfl)]
        simp only [put_someT, setIfInBounds_toArray, set_cons_zero, set_cons_succ] at hK
        have HK := Lib.hid hK
        clear hK he hi hBW
        go_simp
        exact HK.out _ _ (by first | rfl | simp [stT]) (Below.refl _ _)
      · simp only [getElem?_toArray, getElem?_cons_zero, getElem?_cons_succ, Option.some.injEq] at ho
        subst ho
        have e1 : vs 1 = .bool true := (he ⟨1, .data⟩ (by simp) rfl : stT T X N m c A L f R r 1 (vs 1) W)
        rw [e1] at hK ⊢
        rw [if_pos (by rfl)]
        simp only [put_someT, setIfInBounds_toArray, set_cons_zero, set_cons_succ] at hK
        have HK := Lib.hid hK
        clear hK he hi hBW
        go_simp
        exact HK.out _ _ (by first | rfl | simp [stT]) (Below.refl _ _)
      · simp only [getElem?_toArray, getElem?_cons_zero, getElem?_cons_succ, Option.some.injEq] at ho
        subst ho
        have e2 : vs 2 = .bool true := (he ⟨2, .guard⟩ (by simp) rfl : stT T X N m c A L f R r 2 (vs 2) W)
        rw [e2] at hK ⊢
        rw [if_pos (by rfl)]
        simp only [put_someT, setIfInBounds_toArray, set_cons_zero, set_cons_succ] at hK
        have HK := Lib.hid hK
        clear hK he hi hBW
        obtain ⟨_, c0, c1, c2, c3, c4, c5, c6⟩ := RBW.out
        go_simp
        exact HK.out _ _ rfl (Below.refl _ _)
      · simp only [getElem?_toArray, getElem?_cons_zero, getElem?_cons_succ, Option.some.injEq] at ho
        subst ho
        have e3 : vs 3 = .agg #[.int .u8 R.kind, .string (bs R.dep.name), .int .u8 R.dep.op, .int .i64 R.dep.evr.epoch, .string (bs R.dep.evr.ver), .string (bs R.dep.evr.rel), .slice R.addr R.args.length R.cap] := (he ⟨3, .data⟩ (by simp) rfl : stT T X N m c A L f R r 3 (vs 3) W)
        rw [e3] at hK ⊢
        have e2 : vs 2 = .bool true := (he ⟨2, .guard⟩ (by simp) rfl : stT T X N m c A L f R r 2 (vs 2) W)
        rw [e2] at hK ⊢
        rw [if_pos (by rfl)]
        simp only [put_someT, setIfInBounds_toArray, set_cons_zero, set_cons_succ] at hK
        have HK := Lib.hid hK
        clear hK he hi hBW
        have WHW := WH.out W BW.out
        go_simp
        go_at_call 45
        refine WHW.mono ?_
        rintro en w9 ⟨rfl, h⟩
        go_simp
        exact HK.out _ _ rfl h
      · simp only [getElem?_toArray, getElem?_cons_zero, getElem?_cons_succ, Option.some.injEq] at ho
        subst ho
        have e2 : vs 2 = .bool true := (he ⟨2, .data⟩ (by simp) rfl : stT T X N m c A L f R r 2 (vs 2) W)
        rw [e2] at hK ⊢
        have e4 : vs 4 = .bool true := (he ⟨4, .data⟩ (by simp) rfl : stT T X N m c A L f R r 4 (vs 4) W)
        rw [e4] at hK ⊢
        rw [if_pos (by rfl)]
        simp only [put_someT, setIfInBounds_toArray, set_cons_zero, set_cons_succ] at hK
        have HK := Lib.hid hK
        clear hK he hi hBW
        go_simp
        exact HK.out _ _ (by first | rfl | simp [stT]) (Below.refl _ _)
      · simp only [getElem?_toArray, getElem?_cons_zero, getElem?_cons_succ, Option.some.injEq] at ho
        subst ho
        have e5 : vs 5 = .bool true := (he ⟨5, .data⟩ (by simp) rfl : stT T X N m c A L f R r 5 (vs 5) W)
        rw [e5] at hK ⊢
        rw [if_pos (by rfl)]
        simp only [put_someT, setIfInBounds_toArray, set_cons_zero, set_cons_succ] at hK
        have HK := Lib.hid hK
        clear hK he hi hBW
        go_simp
        exact HK.out _ _ (by first | rfl | simp [stT]) (Below.refl _ _)
      · simp only [getElem?_toArray, getElem?_cons_zero, getElem?_cons_succ, Option.some.injEq] at ho
        subst ho
        have e6 : vs 6 = .bool true := (he ⟨6, .guard⟩ (by simp) rfl : stT T X N m c A L f R r 6 (vs 6) W)
        rw [e6] at hK ⊢
        rw [if_pos (by rfl)]
        simp only [put_someT, setIfInBounds_toArray, set_cons_zero, set_cons_succ] at hK
        have HK := Lib.hid hK
        clear hK he hi hBW
        go_simp
        exact HK.out _ _ (by first | rfl | simp [stT]) (Below.refl _ _)
      · simp only [getElem?_toArray, getElem?_cons_zero, getElem?_cons_succ, Option.some.injEq] at ho
        subst ho
        have e6 : vs 6 = .bool true := (he ⟨6, .guard⟩ (by simp) rfl : stT T X N m c A L f R r 6 (vs 6) W)
        rw [e6] at hK ⊢
        rw [if_pos (by rfl)]
        simp only [put_someT, setIfInBounds_toArray, set_cons_zero, set_cons_succ] at hK
        have HK := Lib.hid hK
        clear hK he hi hBW
        go_simp
        exact HK.out _ _ (by first | rfl | simp [stT]) (Below.refl _ _)
      · simp only [getElem?_toArray, getElem?_cons_zero, getElem?_cons_succ, Option.some.injEq] at ho
        subst ho
        have e7 : vs 7 = .pointer (some ⟨T, 0, none⟩) := (he ⟨7, .data⟩ (by simp) rfl : stT T X N m c A L f R r 7 (vs 7) W)
        rw [e7] at hK ⊢
        have e8 : vs 8 = .slice A m c := (he ⟨8, .data⟩ (by simp) rfl : stT T X N m c A L f R r 8 (vs 8) W)
        rw [e8] at hK ⊢
        have e6 : vs 6 = .bool true := (he ⟨6, .guard⟩ (by simp) rfl : stT T X N m c A L f R r 6 (vs 6) W)
        rw [e6] at hK ⊢
        rw [if_pos (by rfl)]
        simp only [put_someT, setIfInBounds_toArray, set_cons_zero, set_cons_succ] at hK
        have HK := Lib.hid hK
        clear hK he hi hBW
        have STW := ST.out W BW.out
        go_simp
        go_at_call 94
        refine STW.mono ?_
        rintro en w9 ⟨rb, rfl, hask, _, h⟩
        unfold askW
        go_simp
        exact HK.out _ _ ⟨rb, rfl, hask⟩ h
      · simp only [getElem?_toArray, getElem?_cons_zero, getElem?_cons_succ, Option.some.injEq] at ho
        subst ho
        have e6 : vs 6 = .bool true := (he ⟨6, .guard⟩ (by simp) rfl : stT T X N m c A L f R r 6 (vs 6) W)
        rw [e6] at hK ⊢
        rw [if_pos (by rfl)]
        simp only [put_someT, setIfInBounds_toArray, set_cons_zero, set_cons_succ] at hK
        have HK := Lib.hid hK
        clear hK he hi hBW
        obtain ⟨_, c0, c1, c2, c3, c4, c5, c6⟩ := RBW.out
        go_simp
        exact HK.out _ _ rfl (Below.refl _ _)
      · simp only [getElem?_toArray, getElem?_cons_zero, getElem?_cons_succ, Option.some.injEq] at ho
        subst ho
        obtain ⟨rb9, e9, hak9⟩ := (he ⟨9, .data⟩ (by simp) rfl : stT T X N m c A L f R r 9 (vs 9) W)
        rw [e9] at hK ⊢
        have AK := Lib.hid hak9
        have e10 : vs 10 = .agg #[.int .u8 R.kind, .string (bs R.dep.name), .int .u8 R.dep.op, .int .i64 R.dep.evr.epoch, .string (bs R.dep.evr.ver), .string (bs R.dep.evr.rel), .slice R.addr R.args.length R.cap] := (he ⟨10, .data⟩ (by simp) rfl : stT T X N m c A L f R r 10 (vs 10) W)
        rw [e10] at hK ⊢
        have e6 : vs 6 = .bool true := (he ⟨6, .guard⟩ (by simp) rfl : stT T X N m c A L f R r 6 (vs 6) W)
        rw [e6] at hK ⊢
        rw [if_pos (by rfl)]
        simp only [put_someT, setIfInBounds_toArray, set_cons_zero, set_cons_succ] at hK
        have HK := Lib.hid hK
        clear hK he hi hBW
        have ISW := IS.out rb9 W BW.out AK.out
        go_simp
        go_at_call 95
        refine ISW.mono ?_
        rintro en w9 ⟨rfl, h⟩
        go_simp
        exact HK.out _ _ rfl h
      · simp only [getElem?_toArray, getElem?_cons_zero, getElem?_cons_succ, Option.some.injEq] at ho
        subst ho
        have e6 : vs 6 = .bool true := (he ⟨6, .data⟩ (by simp) rfl : stT T X N m c A L f R r 6 (vs 6) W)
        rw [e6] at hK ⊢
        have e11 : vs 11 = .bool r := (he ⟨11, .data⟩ (by simp) rfl : stT T X N m c A L f R r 11 (vs 11) W)
        rw [e11] at hK ⊢
        rw [if_pos (by rfl)]
        simp only [put_someT, setIfInBounds_toArray, set_cons_zero, set_cons_succ] at hK
        have HK := Lib.hid hK
        clear hK he hi hBW
        go_simp
        exact HK.out _ _ (by first | rfl | simp [stT]) (Below.refl _ _)
    · intro vs W hall hBW
      have eo : vs 12 = .bool r := hall 12 (by decide)
      simp only [take_succ_cons, take_zero, List.drop_succ_cons, List.drop_zero, fillV, put_someT, put_noneC, setIfInBounds_toArray, set_cons_zero, set_cons_succ]
      rw [eo]
      generalize vs 0 = y0
      generalize vs 1 = y1
      generalize vs 2 = y2
      generalize vs 3 = y3
      generalize vs 4 = y4
      generalize vs 5 = y5
      generalize vs 6 = y6
      generalize vs 7 = y7
      generalize vs 8 = y8
      generalize vs 9 = y9
      generalize vs 10 = y10
      generalize vs 11 = y11
      have BX := Lib.hid (BZ.out.trans (hBW.mono BZ.out.size))
      clear hall hBW eo
      have HE := Lib.hid (show res = r from by rw [HRS.out]; rfl)
      go_wp2_with fail
      go_ret
      exact ⟨by rw [HE.out]; rfl, BX.out⟩
end
end Go.Proofs.YteobmfpbgnmffaaGreatDoor
