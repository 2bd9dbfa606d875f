/- TrIs7 -/
import Derived.Test.YteobmfpbgnmffaaGreatDoorTruthMoreRowG38
set_option linter.unusedSimpArgs false
set_option linter.unusedVariables false
open List (getElem?_toArray getElem?_cons_zero getElem?_cons_succ setIfInBounds_toArray set_cons_zero set_cons_succ take_succ_cons take_zero)
/- Walk: whether a state satisfies it (truth.asked: is). -/

namespace Go.Proofs.YteobmfpbgnmffaaGreatDoor
open Go.RowKit Go.Shelf
set_option linter.unusedVariables false

def isP (rx tb kk T rb N : Nat) (g : FuncId) (R : RV) (r : Bool) (i : Nat) (v : Value) (W : World) : Prop := match i with
  | 0 => v = .pointer (some ⟨rx, 0, none⟩)
  | 1 => v = .int .u8 (kk : Int)
  | 2 => v = .pointer (some ⟨tb, kk, none⟩)
  | 3 => v = .func (.func g) #[] #[]
  | 4 => v = .agg #[.pointer (some ⟨T, 0, none⟩), .slice (some ⟨rb, 0, none⟩) N N]
  | 5 => v = .agg #[.int .u8 R.kind, .string (bs R.dep.name), .int .u8 R.dep.op, .int .i64 R.dep.evr.epoch, .string (bs R.dep.evr.ver), .string (bs R.dep.evr.rel), .slice R.addr R.args.length R.cap]
  | 6 => v = .bool r
  | _ => False
theorem isP_mono (rx tb kk T rb N : Nat) (g : FuncId) (R : RV) (r : Bool) : ∀ i v w w', isP rx tb kk T rb N g R r i v w → Below w.heap.size w w' → isP rx tb kk T rb N g R r i v w' := by
  intro i v w w' h hb
  match i, h with
  | 0, h => exact h
  | 1, h => exact h
  | 2, h => exact h
  | 3, h => exact h
  | 4, h => exact h
  | 5, h => exact h
  | 6, h => exact h
  | (k + 7), h => exact h.elim

theorem treeL_map (l : List RV) : treeL l = l.map RV.tree := by
  induction l with
  | nil => rfl
  | cons a l ih => rw [treeL, ih]; rfl
section
variable {T X N : Nat} {L : List Pk}
theorem sat_rv (pv : Nat → Dp → Bool) (R : RV) (f : Nat → Bool) : Tr.sat N pv R.tree f = Tr.comb N f R.kind (fun n => pv n R.dep) (Tr.satL N pv (treeL R.args) f) (fun n => Tr.satL N pv (treeL R.args) (Tr.one n)) := by
  cases R
  rw [RV.tree, Tr.sat]
  rfl
theorem okB_rv (R : RV) : R.tree.okB = (if R.kind = 1 then (treeL R.args).isEmpty && dmayB R.dep else decide (2 ≤ R.kind ∧ R.kind ≤ 7) && (isZeroT R.dep && (decide (2 ≤ (treeL R.args).length ∧ (treeL R.args).length ≤ mostK R.kind) && okL (treeL R.args)))) := by
  cases R
  rw [RV.tree, RT.okB]
  rfl
theorem sat_get {pv : Nat → Dp → Bool} {l : List RV} {i : Nat} (h : i < l.length) (f : Nat → Bool) : (Tr.satL N pv (treeL l) f).getD i false = Tr.sat N pv l[i].tree f := by
  rw [Tr.satL_get (treeL l) f (by rw [treeL_len]; exact h), treeL_get l i h]
theorem sat_all {pv : Nat → Dp → Bool} (l : List RV) (f : Nat → Bool) : (Tr.satL N pv (treeL l) f).all id = l.all fun a => Tr.sat N pv a.tree f := by
  rw [Tr.satL_all, treeL_map, List.all_map]; rfl
theorem sat_any {pv : Nat → Dp → Bool} (l : List RV) (f : Nat → Bool) : (Tr.satL N pv (treeL l) f).any id = l.any fun a => Tr.sat N pv a.tree f := by
  rw [Tr.satL_any, treeL_map, List.any_map]; rfl
def fnOf (k : Nat) : FuncId := match k with
  | 1 => 136
  | 2 => 137
  | 3 => 138
  | 4 => 139
  | 5 => 140
  | 6 => 141
  | _ => 142

set_option maxRecDepth 100000 in
set_option maxHeartbeats 4000000 in
theorem isfn (R : RV) (kk : Nat) (hkk : R.kind = (kk : Int)) (hk : 1 ≤ kk ∧ kk ≤ 7) (ho : R.tree.okB = true) (hn : R.args.length ≤ 1000000) (hR : ∀ a ∈ R.args, IsOk T X N L a) :
    ∃ g : FuncId, (∀ args w, (callFunc g args).run Tryz.prog w = .ok (.enter g args) w) ∧ g = fnOf kk ∧ ∀ (rb : Nat) (f : Nat → Bool) (W : World), AskT T X N rb L f W → RTree W.heap.size W R → Calls Tryz.prog g #[askW T rb N, R.val] W fun e w' => e = .returned (.bool (Tr.sat N (pvL L) R.tree f)) ∧ Below W.heap.size W w' := by
  rw [okB_rv] at ho
  simp only [sat_rv, Tr.comb, hkk] at *
  obtain ⟨h1, h2⟩ := hk
  obtain rfl | rfl | rfl | rfl | rfl | rfl | rfl : kk = 1 ∨ kk = 2 ∨ kk = 3 ∨ kk = 4 ∨ kk = 5 ∨ kk = 6 ∨ kk = 7 := by omega
  · rw [if_pos (by rfl), Bool.and_eq_true] at ho
    exact ⟨_, fun _ _ => rfl, rfl, fun rb f W hA hT => (atom_any R ho.2 rb f W hA hT).mono fun e w' h => ⟨h.1.trans (by rw [if_pos (by rfl)]), h.2⟩⟩
  · exact ⟨_, fun _ _ => rfl, rfl, fun rb f W hA hT => (and_any R hn hR rb f W hA hT).mono fun e w' h => ⟨h.1.trans (by rw [if_neg (by decide), if_pos (by rfl), sat_all]), h.2⟩⟩
  · exact ⟨_, fun _ _ => rfl, rfl, fun rb f W hA hT => (tor_any R hn hR rb f W hA hT).mono fun e w' h => ⟨h.1.trans (by rw [if_neg (by decide), if_neg (by decide), if_pos (by rfl), sat_any]), h.2⟩⟩
  · rw [if_neg (by decide)] at ho
    simp only [Bool.and_eq_true, decide_eq_true_eq, treeL_len] at ho
    have h3 := ho.2.2.1
    have hm : mostK ((4 : Nat) : Int) = 3 := rfl
    rw [hm] at h3
    refine ⟨_, fun _ _ => rfl, rfl, fun rb f W hA hT => ?_⟩
    rw [if_neg (by decide), if_neg (by decide), if_neg (by decide), if_pos (by rfl), sat_get (i := 1) (by omega) f, sat_get (i := 0) (by omega) f, Tr.satL_len, treeL_len]
    by_cases e : R.args.length = 2
    · exact (iff2_any R e hR rb f W hA hT).mono fun _ _ h => ⟨h.1.trans (by rw [show decide (R.args.length < 3) = true from decide_eq_true (by omega), Bool.true_or]), h.2⟩
    · have e3 : R.args.length = 3 := by omega
      rw [sat_get (i := 2) (by omega) f]
      exact (iff3_any R e3 hR rb f W hA hT).mono fun _ _ h => ⟨h.1.trans (by rw [show decide (R.args.length < 3) = false from decide_eq_false (by omega), Bool.false_or]), h.2⟩
  · rw [if_neg (by decide)] at ho
    simp only [Bool.and_eq_true, decide_eq_true_eq, treeL_len] at ho
    have h3 := ho.2.2.1
    have hm : mostK ((5 : Nat) : Int) = 3 := rfl
    rw [hm] at h3
    refine ⟨_, fun _ _ => rfl, rfl, fun rb f W hA hT => ?_⟩
    rw [if_neg (by decide), if_neg (by decide), if_neg (by decide), if_neg (by decide), if_pos (by rfl), sat_get (i := 1) (by omega) f, sat_get (i := 0) (by omega) f, Tr.satL_len, treeL_len]
    by_cases e : R.args.length = 2
    · exact (unless2_any R e hR rb f W hA hT).mono fun _ _ h => ⟨h.1.trans (by rw [show decide (R.args.length = 3) = false from decide_eq_false (by omega), Bool.false_and]), h.2⟩
    · have e3 : R.args.length = 3 := by omega
      rw [sat_get (i := 2) (by omega) f]
      exact (unless3_any R e3 hR rb f W hA hT).mono fun _ _ h => ⟨h.1.trans (by rw [show decide (R.args.length = 3) = true from decide_eq_true (by omega), Bool.true_and]), h.2⟩
  · exact ⟨_, fun _ _ => rfl, rfl, fun rb f W hA hT => (with_any R hn hR rb f W hA hT).mono fun e w' h => ⟨h.1.trans (by rw [if_neg (by decide), if_neg (by decide), if_neg (by decide), if_neg (by decide), if_neg (by decide), if_pos (by rfl)]; simp only [sat_all]), h.2⟩⟩
  · rw [if_neg (by decide)] at ho
    simp only [Bool.and_eq_true, decide_eq_true_eq, treeL_len] at ho
    have h3 := ho.2.2.1
    have hm : mostK ((7 : Nat) : Int) = 2 := rfl
    rw [hm] at h3
    have e : R.args.length = 2 := by omega
    exact ⟨_, fun _ _ => rfl, rfl, fun rb f W hA hT => (without_any R e hR rb f W hA hT).mono fun _ _ h => ⟨h.1.trans (by
      rw [if_neg (by decide), if_neg (by decide), if_neg (by decide), if_neg (by decide), if_neg (by decide), if_neg (by decide)]
      congr 3; funext n; rw [sat_get (by omega), sat_get (by omega)]), h.2⟩⟩
set_option maxRecDepth 100000 in
set_option maxHeartbeats 16000000 in
theorem is_step (R : RV) (kk : Nat) (hkk : R.kind = (kk : Int)) (hk : 1 ≤ kk ∧ kk ≤ 7) (ho : R.tree.okB = true) (hn : R.args.length ≤ 1000000) (hR : ∀ a ∈ R.args, IsOk T X N L a) : IsOk T X N L R := by
  intro rb f U hA hT
  have b1 := (Below.refl U.heap.size U).alloc (Nat.le_refl _) (.cells #[.pointer (some ⟨T, 0, none⟩), .slice (some ⟨rb, 0, none⟩) N N] 145)
  have b2 := b1.alloc (by simp) (.cells #[.int .u8 R.kind, .string (bs R.dep.name), .int .u8 R.dep.op, .int .i64 R.dep.evr.epoch, .string (bs R.dep.evr.ver), .string (bs R.dep.evr.rel), .slice R.addr R.args.length R.cap] 39)
  have bb := (Below.refl _ (U.alloc (.cells #[.pointer (some ⟨T, 0, none⟩), .slice (some ⟨rb, 0, none⟩) N N] 145))).alloc (Nat.le_refl _) (.cells #[.int .u8 R.kind, .string (bs R.dep.name), .int .u8 R.dep.op, .int .i64 R.dep.evr.epoch, .string (bs R.dep.evr.ver), .string (bs R.dep.evr.rel), .slice R.addr R.args.length R.cap] 39)
  have a1 := (ABox.new T rb N U 145).then bb
  have RB := RBx.new R (U.alloc (.cells #[.pointer (some ⟨T, 0, none⟩), .slice (some ⟨rb, 0, none⟩) N N] 145))
  rw [World.size_alloc] at RB
  obtain ⟨g, eg, hg, cg⟩ := isfn (T := T) (X := X) (N := N) (L := L) R kk hkk hk ho hn hR
  have CG := Lib.hid (fun W (hb : Below U.heap.size U W) => cg rb f W (hA.then hb) ((hT.keeps hb).more hb.size))
  have EG := Lib.hid eg
  have HKK := Lib.hid hkk
  have HG := Lib.hid hg
  have HK9 := Lib.hid hk
  unfold askW RV.val at CG
  unfold askW RV.val
  clear hA hT ho hn hR cg eg hkk b1 hg
  generalize Tr.sat N (pvL L) R.tree f = r at *
  have hk1 := hk.1
  have hk2 := hk.2
  clear hk
  go_enter Tryz.func95, Tryz.ntmps95
  go_wp2_with fail
  have TC := Lib.hid (show (((U.alloc (.cells #[.pointer (some ⟨T, 0, none⟩), .slice (some ⟨rb, 0, none⟩) N N] 145)).alloc (.cells #[.int .u8 R.kind, .string (bs R.dep.name), .int .u8 R.dep.op, .int .i64 R.dep.evr.epoch, .string (bs R.dep.evr.ver), .string (bs R.dep.evr.rel), .slice R.addr R.args.length R.cap] 39)).alloc (.cells #[.nilFunc, .func (.func 136) #[] #[], .func (.func 137) #[] #[], .func (.func 138) #[] #[], .func (.func 139) #[] #[], .func (.func 140) #[] #[], .func (.func 141) #[] #[], .func (.func 142) #[] #[]] 182)).cell? ⟨U.heap.size + 1 + 1, (kk : Nat), none⟩ = some (.func (.func g) #[] #[]) by rw [HG.out]; obtain ⟨h1, h2⟩ := HK9.out; rcases (show kk = 1 ∨ kk = 2 ∨ kk = 3 ∨ kk = 4 ∨ kk = 5 ∨ kk = 6 ∨ kk = 7 by omega) with rfl | rfl | rfl | rfl | rfl | rfl | rfl <;> simp [go_sem, fnOf])
  have bt := (Below.refl _ ((U.alloc (.cells #[.pointer (some ⟨T, 0, none⟩), .slice (some ⟨rb, 0, none⟩) N N] 145)).alloc (.cells #[.int .u8 R.kind, .string (bs R.dep.name), .int .u8 R.dep.op, .int .i64 R.dep.evr.epoch, .string (bs R.dep.evr.ver), .string (bs R.dep.evr.rel), .slice R.addr R.args.length R.cap] 39))).alloc (Nat.le_refl _) (.cells #[.nilFunc, .func (.func 136) #[] #[], .func (.func 137) #[] #[], .func (.func 138) #[] #[], .func (.func 139) #[] #[], .func (.func 140) #[] #[], .func (.func 141) #[] #[], .func (.func 142) #[] #[]] 182)
  have a2 := a1.then bt
  have RB2 := RB.then bt
  have b3 := b2.alloc b2.size (.cells #[.nilFunc, .func (.func 136) #[] #[], .func (.func 137) #[] #[], .func (.func 138) #[] #[], .func (.func 139) #[] #[], .func (.func 140) #[] #[], .func (.func 141) #[] #[], .func (.func 142) #[] #[]] 182)
  obtain ⟨V, hV⟩ : ∃ V, V = ((U.alloc (.cells #[.pointer (some ⟨T, 0, none⟩), .slice (some ⟨rb, 0, none⟩) N N] 145)).alloc (.cells #[.int .u8 R.kind, .string (bs R.dep.name), .int .u8 R.dep.op, .int .i64 R.dep.evr.epoch, .string (bs R.dep.evr.ver), .string (bs R.dep.evr.rel), .slice R.addr R.args.length R.cap] 39)).alloc (.cells #[.nilFunc, .func (.func 136) #[] #[], .func (.func 137) #[] #[], .func (.func 138) #[] #[], .func (.func 139) #[] #[], .func (.func 140) #[] #[], .func (.func 141) #[] #[], .func (.func 142) #[] #[]] 182) := ⟨_, rfl⟩
  rw [← hV] at a2 RB2 b3 TC ⊢
  have AX := Lib.hid a2
  have BZ := Lib.hid b3
  have RBV := Lib.hid RB2
  have TCL := Lib.hid (World.block_lt_of_cell? V _ TC.out)
  clear hV a1 a2 RB RB2 b2 b3 bt bb
  have CG := Lib.hid (fun W (hb : Below V.heap.size V W) => CG.out W (BZ.out.trans (hb.mono BZ.out.size)))
  clear HG HK9
  have i0 : (0 : Int) ≤ (kk : Int) := by omega
  have i1 : (kk : Int) < 8 := by omega
  refine wp_region_tail (PP := isP (U.heap.size + 1) (U.heap.size + 1 + 1) kk T rb N g R r) 7 rfl (by kernel_rfl) (by kernel_rfl) (by decide) (by decide) (isP_mono (U.heap.size + 1) (U.heap.size + 1 + 1) kk T rb N g R r) (fun _ => undef) (by simp [fillV, put_someT, setIfInBounds_toArray, set_cons_zero, set_cons_succ]) ?_ ?_
  · intro i o vs W hi ho he hBW K hK
    simp only [take_succ_cons, take_zero, fillV, put_someT, setIfInBounds_toArray, set_cons_zero, set_cons_succ] at hK ⊢
    have BW := Lib.hid hBW
    have AXW := Lib.hid (AX.out.then hBW)
    have RBW := Lib.hid (RBV.out.then hBW)
    have TCW := Lib.hid ((hBW.cell TCL.out).trans TC.out)
    obtain rfl | rfl | rfl | rfl | rfl | rfl | rfl := (show i = 0 ∨ i = 1 ∨ i = 2 ∨ i = 3 ∨ i = 4 ∨ i = 5 ∨ i = 6 by exact (by have : i < 7 := hi; omega))
    · simp only [getElem?_toArray, getElem?_cons_zero, getElem?_cons_succ, Option.some.injEq] at ho
      subst ho
      rw [if_pos (by rfl)]
      simp only [put_someT, setIfInBounds_toArray, set_cons_zero, set_cons_succ] at hK
      have HK := Lib.hid hK
      clear hK he hi hBW
      go_simp
      exact HK.out _ _ (by first | rfl | simp [isP]) (Below.refl _ _)
    · simp only [getElem?_toArray, getElem?_cons_zero, getElem?_cons_succ, Option.some.injEq] at ho
      subst ho
      have e0 : vs 0 = .pointer (some ⟨U.heap.size + 1, 0, none⟩) := (he ⟨0, .data⟩ (by simp) rfl : isP (U.heap.size + 1) (U.heap.size + 1 + 1) kk T rb N g R r 0 (vs 0) W)
      rw [e0] at hK ⊢
      rw [if_pos (by rfl)]
      simp only [put_someT, setIfInBounds_toArray, set_cons_zero, set_cons_succ] at hK
      have HK := Lib.hid hK
      clear hK he hi hBW
      have c0 := RBW.out.2.1
      rw [HKK.out] at c0
      go_simp
      exact HK.out _ _ rfl (Below.refl _ _)
    · simp only [getElem?_toArray, getElem?_cons_zero, getElem?_cons_succ, Option.some.injEq] at ho
      subst ho
      have e1 : vs 1 = .int .u8 (kk : Int) := (he ⟨1, .data⟩ (by simp) rfl : isP (U.heap.size + 1) (U.heap.size + 1 + 1) kk T rb N g R r 1 (vs 1) W)
      rw [e1] at hK ⊢
      rw [if_pos (by rfl)]
      simp only [put_someT, setIfInBounds_toArray, set_cons_zero, set_cons_succ] at hK
      have HK := Lib.hid hK
      clear hK he hi hBW
      go_simp
      exact HK.out _ _ rfl (Below.refl _ _)
    · simp only [getElem?_toArray, getElem?_cons_zero, getElem?_cons_succ, Option.some.injEq] at ho
      subst ho
      have e2 : vs 2 = .pointer (some ⟨U.heap.size + 1 + 1, kk, none⟩) := (he ⟨2, .data⟩ (by simp) rfl : isP (U.heap.size + 1) (U.heap.size + 1 + 1) kk T rb N g R r 2 (vs 2) W)
      rw [e2] at hK ⊢
      rw [if_pos (by rfl)]
      simp only [put_someT, setIfInBounds_toArray, set_cons_zero, set_cons_succ] at hK
      have HK := Lib.hid hK
      clear hK he hi hBW
      have cx := TCW.out
      go_simp
      exact HK.out _ _ rfl (Below.refl _ _)
    · simp only [getElem?_toArray, getElem?_cons_zero, getElem?_cons_succ, Option.some.injEq] at ho
      subst ho
      rw [if_pos (by rfl)]
      simp only [put_someT, setIfInBounds_toArray, set_cons_zero, set_cons_succ] at hK
      have HK := Lib.hid hK
      clear hK he hi hBW
      have a0 := AXW.out.2.1
      have a1 := AXW.out.2.2
      go_simp
      exact HK.out _ _ rfl (Below.refl _ _)
    · simp only [getElem?_toArray, getElem?_cons_zero, getElem?_cons_succ, Option.some.injEq] at ho
      subst ho
      rw [if_pos (by rfl)]
      simp only [put_someT, setIfInBounds_toArray, set_cons_zero, set_cons_succ] at hK
      have HK := Lib.hid hK
      clear hK he hi hBW
      obtain ⟨_, c0, c1, c2, c3, c4, c5, c6⟩ := RBW.out
      go_simp
      exact HK.out _ _ rfl (Below.refl _ _)
    · simp only [getElem?_toArray, getElem?_cons_zero, getElem?_cons_succ, Option.some.injEq] at ho
      subst ho
      have e3 : vs 3 = .func (.func g) #[] #[] := (he ⟨3, .data⟩ (by simp) rfl : isP (U.heap.size + 1) (U.heap.size + 1 + 1) kk T rb N g R r 3 (vs 3) W)
      rw [e3] at hK ⊢
      have e4 : vs 4 = .agg #[.pointer (some ⟨T, 0, none⟩), .slice (some ⟨rb, 0, none⟩) N N] := (he ⟨4, .data⟩ (by simp) rfl : isP (U.heap.size + 1) (U.heap.size + 1 + 1) kk T rb N g R r 4 (vs 4) W)
      rw [e4] at hK ⊢
      have e5 : vs 5 = .agg #[.int .u8 R.kind, .string (bs R.dep.name), .int .u8 R.dep.op, .int .i64 R.dep.evr.epoch, .string (bs R.dep.evr.ver), .string (bs R.dep.evr.rel), .slice R.addr R.args.length R.cap] := (he ⟨5, .data⟩ (by simp) rfl : isP (U.heap.size + 1) (U.heap.size + 1 + 1) kk T rb N g R r 5 (vs 5) W)
      rw [e5] at hK ⊢
      rw [if_pos (by rfl)]
      simp only [put_someT, setIfInBounds_toArray, set_cons_zero, set_cons_succ] at hK
      have HK := Lib.hid hK
      clear hK he hi hBW
      have CGW := CG.out W BW.out
      have eg := EG.out
      go_simp
      go_at_fn g
      refine CGW.mono ?_
      rintro en w9 ⟨rfl, h⟩
      go_simp
      exact HK.out _ _ rfl h
  · intro vs W hall hBW
    have eo : vs 6 = .bool r := hall 6 (by decide)
    simp only [take_succ_cons, take_zero, List.drop_succ_cons, List.drop_zero, fillV, put_someT, put_noneC, setIfInBounds_toArray, set_cons_zero, set_cons_succ]
    rw [eo]
    generalize vs 0 = y0
    generalize vs 1 = y1
    generalize vs 2 = y2
    generalize vs 3 = y3
    generalize vs 4 = y4
    generalize vs 5 = y5
    have BX := Lib.hid (BZ.out.trans (hBW.mono BZ.out.size))
    clear hall hBW eo
    go_wp2_with fail
    go_ret
    exact ⟨rfl, BX.out⟩
end
end Go.Proofs.YteobmfpbgnmffaaGreatDoor
