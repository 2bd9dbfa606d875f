/- StComes -/
import Derived.Test.YteobmfpbgnmffaaGreatDoorStepsNamesRowG38
set_option linter.unusedSimpArgs false
set_option linter.unusedVariables false
open List (getElem?_toArray getElem?_cons_zero getElem?_cons_succ setIfInBounds_toArray set_cons_zero set_cons_succ take_succ_cons take_zero)
/- Walk: the step of one that comes ((*steps.change).comes). -/

namespace Go.Proofs.YteobmfpbgnmffaaGreatDoor
open Go.RowKit Go.Shelf
set_option linter.unusedVariables false
attribute [local go_sem] Oper.semAt_some
attribute [local go_sem ↓ high] asked_wide

/-- the Kind of one that comes -/
def comesOf (L : List Pr) (k : Nat) (b : Option Nat) (ov : Bool) : Int := match b with
  | none => if ov then 5 else 1
  | some b => if cmpI2 L b k < 0 then 2 else if 0 < cmpI2 L b k then 3 else 4
def comesV (L : List Pr) (inb : List Bool) (I0 k : Nat) : Int := comesOf L k (St.bestOf (nmP L) (cmpI2 L) k (chgl inb I0 0 I0) none) ((chgl inb I0 0 I0).any fun i => obsP L (k : Int) (i : Int))
def CoI {inb : List Bool} {I0 : Nat} (L : List Pr) (w : World) (cb k g kb : Nat) (q : Pk) (pre : List (ChgN inb I0 0 I0)) (W : World) : Prop := CoAt L w cb k g kb q (St.bestOf (nmP L) (cmpI2 L) k (pre.map fun y => y.1) none) (pre.any fun y => obsP L (k : Int) (y.1 : Int)) W
def CoX {inb : List Bool} {I0 : Nat} (c : Code) (pre : List (ChgN inb I0 0 I0)) (W : World) : Prop := False
theorem CoI.own {inb : List Bool} {I0 : Nat} {L : List Pr} {w : World} {cb k g kb B : Nat} {q : Pk} (hB : w.heap.size ≤ B) : OwnFrom B (CoI (inb := inb) (I0 := I0) L w cb k g kb q) := CoAt.own hB _ _
theorem CoX.own {inb : List Bool} {I0 : Nat} {B : Nat} (c : Code) : OwnFrom B (CoX (inb := inb) (I0 := I0) c) := fun s A C row hs hg hr => hs
def co7B (yb g : Nat) (q9 q : Pk) (i : Nat) (v : Value) (W : World) : Prop := match i with
  | 0 => v = .pointer (some ⟨yb, 0, none⟩)
  | 1 => v = .string q9.name
  | 2 => v = .pointer (some ⟨g, 0, none⟩)
  | 3 => v = .string q.name
  | 4 => v = .bool true
  | 5 => v = .bool true
  | 6 => v = .slice none 0 0
  | 7 => v = .int .i64 0
  | 8 => v = .bool true
  | 9 => v = .bool true
  | 10 => v = undef
  | 11 => v = undef
  | 12 => v = undef
  | 13 => v = undef
  | 14 => v = undef
  | 15 => v = undef
  | 16 => v = undef
  | 17 => v = .bool true
  | 18 => v = .bool true
  | _ => False
theorem co7B_mono (yb g : Nat) (q9 q : Pk) : ∀ i v w w', co7B yb g q9 q i v w → Below w.heap.size w w' → co7B yb g q9 q i v w' := by
  intro i v w w' h _
  match i, h with
  | 0, h => exact h
  | 1, h => exact h
  | 2, h => exact h
  | 3, h => exact h
  | 4, h => exact h
  | 5, h => exact h
  | 6, h => exact h
  | 7, h => exact h
  | 8, h => exact h
  | 9, h => exact h
  | 10, h => exact h
  | 11, h => exact h
  | 12, h => exact h
  | 13, h => exact h
  | 14, h => exact h
  | 15, h => exact h
  | 16, h => exact h
  | 17, h => exact h
  | 18, h => exact h
  | (i + 19), h => exact h.elim
def co9F (cb P k m : Nat) (ob : Bool) (i : Nat) (v : Value) (W : World) : Prop := match i with
  | 0 => v = .bool false
  | 1 => v = .bool false
  | 2 => v = .pointer (some ⟨cb, 0, none⟩)
  | 3 => v = .pointer (some ⟨cb, 0, none⟩)
  | 4 => v = .pointer (some ⟨cb, 0, none⟩)
  | 5 => v = .pointer (some ⟨P, 0, none⟩)
  | 6 => v = .int .i64 (k : Int)
  | 7 => v = .int .i64 (m : Int)
  | 8 => v = .bool ob
  | 9 => v = .bool ob
  | _ => False
theorem co9F_mono (cb P k m : Nat) (ob : Bool) : ∀ i v w w', co9F cb P k m ob i v w → Below w.heap.size w w' → co9F cb P k m ob i v w' := by
  intro i v w w' h _
  match i, h with
  | 0, h => exact h
  | 1, h => exact h
  | 2, h => exact h
  | 3, h => exact h
  | 4, h => exact h
  | 5, h => exact h
  | 6, h => exact h
  | 7, h => exact h
  | 8, h => exact h
  | 9, h => exact h
  | (i + 10), h => exact h.elim
def co9T (cb P k m : Nat) (ob : Bool) (i : Nat) (v : Value) (W : World) : Prop := match i with
  | 0 => v = .bool true
  | 1 => v = .bool true
  | 2 => v = undef
  | 3 => v = undef
  | 4 => v = undef
  | 5 => v = undef
  | 6 => v = undef
  | 7 => v = undef
  | 8 => v = undef
  | 9 => v = .bool true
  | _ => False
theorem co9T_mono (cb P k m : Nat) (ob : Bool) : ∀ i v w w', co9T cb P k m ob i v w → Below w.heap.size w w' → co9T cb P k m ob i v w' := by
  intro i v w w' h _
  match i, h with
  | 0, h => exact h
  | 1, h => exact h
  | 2, h => exact h
  | 3, h => exact h
  | 4, h => exact h
  | 5, h => exact h
  | 6, h => exact h
  | 7, h => exact h
  | 8, h => exact h
  | 9, h => exact h
  | (i + 10), h => exact h.elim
def co7C (yb g : Nat) (q9 q : Pk) (h : Nat) (r : Pk) (d : Int) (i : Nat) (v : Value) (W : World) : Prop := match i with
  | 0 => v = .pointer (some ⟨yb, 0, none⟩)
  | 1 => v = .string q9.name
  | 2 => v = .pointer (some ⟨g, 0, none⟩)
  | 3 => v = .string q.name
  | 4 => v = .bool true
  | 5 => v = .bool true
  | 6 => v = .slice (some ⟨h, 0, none⟩) 1 1
  | 7 => v = .int .i64 1
  | 8 => v = .bool false
  | 9 => v = .bool false
  | 10 => v = .pointer (some ⟨yb, 1, none⟩)
  | 11 => v = .agg #[.int .i64 q9.epoch, .string q9.ver, .string q9.rel]
  | 12 => v = .slice (some ⟨h, 0, none⟩) 1 1
  | 13 => v = .pointer (some ⟨h, 0, none⟩)
  | 14 => v = .agg #[.int .i64 r.epoch, .string r.ver, .string r.rel]
  | 15 => v = .int .i64 d
  | 16 => v = .bool true
  | 17 => v = .bool true
  | 18 => v = .bool true
  | _ => False
theorem co7C_mono (yb g : Nat) (q9 q : Pk) (h : Nat) (r : Pk) (d : Int) : ∀ i v w w', co7C yb g q9 q h r d i v w → Below w.heap.size w w' → co7C yb g q9 q h r d i v w' := by
  intro i v w w' h _
  match i, h with
  | 0, h => exact h
  | 1, h => exact h
  | 2, h => exact h
  | 3, h => exact h
  | 4, h => exact h
  | 5, h => exact h
  | 6, h => exact h
  | 7, h => exact h
  | 8, h => exact h
  | 9, h => exact h
  | 10, h => exact h
  | 11, h => exact h
  | 12, h => exact h
  | 13, h => exact h
  | 14, h => exact h
  | 15, h => exact h
  | 16, h => exact h
  | 17, h => exact h
  | 18, h => exact h
  | (i + 19), h => exact h.elim
def co7D (yb g : Nat) (q9 q : Pk) (h : Nat) (r : Pk) (d : Int) (i : Nat) (v : Value) (W : World) : Prop := match i with
  | 0 => v = .pointer (some ⟨yb, 0, none⟩)
  | 1 => v = .string q9.name
  | 2 => v = .pointer (some ⟨g, 0, none⟩)
  | 3 => v = .string q.name
  | 4 => v = .bool true
  | 5 => v = .bool true
  | 6 => v = .slice (some ⟨h, 0, none⟩) 1 1
  | 7 => v = .int .i64 1
  | 8 => v = .bool false
  | 9 => v = .bool false
  | 10 => v = .pointer (some ⟨yb, 1, none⟩)
  | 11 => v = .agg #[.int .i64 q9.epoch, .string q9.ver, .string q9.rel]
  | 12 => v = .slice (some ⟨h, 0, none⟩) 1 1
  | 13 => v = .pointer (some ⟨h, 0, none⟩)
  | 14 => v = .agg #[.int .i64 r.epoch, .string r.ver, .string r.rel]
  | 15 => v = .int .i64 d
  | 16 => v = .bool false
  | 17 => v = .bool false
  | 18 => v = .bool false
  | _ => False
theorem co7D_mono (yb g : Nat) (q9 q : Pk) (h : Nat) (r : Pk) (d : Int) : ∀ i v w w', co7D yb g q9 q h r d i v w → Below w.heap.size w w' → co7D yb g q9 q h r d i v w' := by
  intro i v w w' h _
  match i, h with
  | 0, h => exact h
  | 1, h => exact h
  | 2, h => exact h
  | 3, h => exact h
  | 4, h => exact h
  | 5, h => exact h
  | 6, h => exact h
  | 7, h => exact h
  | 8, h => exact h
  | 9, h => exact h
  | 10, h => exact h
  | 11, h => exact h
  | 12, h => exact h
  | 13, h => exact h
  | 14, h => exact h
  | 15, h => exact h
  | 16, h => exact h
  | 17, h => exact h
  | 18, h => exact h
  | (i + 19), h => exact h.elim
def co7A (yb g : Nat) (q9 q : Pk) (i : Nat) (v : Value) (W : World) : Prop := match i with
  | 0 => v = .pointer (some ⟨yb, 0, none⟩)
  | 1 => v = .string q9.name
  | 2 => v = .pointer (some ⟨g, 0, none⟩)
  | 3 => v = .string q.name
  | 4 => v = .bool false
  | 5 => v = .bool false
  | 6 => v = undef
  | 7 => v = undef
  | 8 => v = undef
  | 9 => v = undef
  | 10 => v = undef
  | 11 => v = undef
  | 12 => v = undef
  | 13 => v = undef
  | 14 => v = undef
  | 15 => v = undef
  | 16 => v = undef
  | 17 => v = undef
  | 18 => v = .bool false
  | _ => False
theorem co7A_mono (yb g : Nat) (q9 q : Pk) : ∀ i v w w', co7A yb g q9 q i v w → Below w.heap.size w w' → co7A yb g q9 q i v w' := by
  intro i v w w' h _
  match i, h with
  | 0, h => exact h
  | 1, h => exact h
  | 2, h => exact h
  | 3, h => exact h
  | 4, h => exact h
  | 5, h => exact h
  | 6, h => exact h
  | 7, h => exact h
  | 8, h => exact h
  | 9, h => exact h
  | 10, h => exact h
  | 11, h => exact h
  | 12, h => exact h
  | 13, h => exact h
  | 14, h => exact h
  | 15, h => exact h
  | 16, h => exact h
  | 17, h => exact h
  | 18, h => exact h
  | (i + 19), h => exact h.elim
def co14 (g h : Nat) (q r : Pk) (d : Int) (i : Nat) (v : Value) (W : World) : Prop := match i with
  | 0 => v = .slice (some ⟨h, 0, none⟩) 1 1
  | 1 => v = .pointer (some ⟨h, 0, none⟩)
  | 2 => v = .agg #[.int .i64 r.epoch, .string r.ver, .string r.rel]
  | 3 => v = .pointer (some ⟨g, 1, none⟩)
  | 4 => v = .agg #[.int .i64 q.epoch, .string q.ver, .string q.rel]
  | 5 => v = .int .i64 d
  | _ => False
theorem co14_mono (g h : Nat) (q r : Pk) (d : Int) : ∀ i v w w', co14 g h q r d i v w → Below w.heap.size w w' → co14 g h q r d i v w' := by
  intro i v w w' h _
  match i, h with
  | 0, h => exact h
  | 1, h => exact h
  | 2, h => exact h
  | 3, h => exact h
  | 4, h => exact h
  | 5, h => exact h
  | (i + 6), h => exact h.elim
set_option maxRecDepth 100000 in
set_option maxHeartbeats 16000000 in
theorem stcomesof_any {P : Nat} {I0 : Nat} {L : List Pr} {w : World} (hp : Pool P (I0 : Int) L w) (cb : Nat) (inb : List Bool) (hc : ChAt cb P I0 L.length inb (fun b => w.heap.size ≤ b) w) (hcb : cb < w.heap.size) (k : Nat) (hk : k < L.length) (hn : L.length ≤ 1000000) (hI0 : I0 ≤ L.length) : Calls Tryz.prog 85 #[.pointer (some ⟨cb, 0, none⟩), .int .i64 (k : Int)] w fun e w' => e = .returned (.int .u8 (comesV L inb I0 k)) ∧ Below w.heap.size w w' := by
  obtain ⟨x, hx⟩ : ∃ x, L[k].pk = x := ⟨_, rfl⟩
  have PK := Lib.hid (fun W (hb : Below w.heap.size w W) => hx ▸ poolpkg_any (hp.then hb) hk hn)
  have HP := Lib.hid hp
  have HC := Lib.hid hc
  have hc0 := hc.c0
  clear hp hc
  refine (callsIn_wide (n := 8)).1 ?_
  refine callsIn_of_wp_marks Tryz.func85 rfl trivial ?_ rfl
  simp only [Tryz.ntmps85, List.size_toArray, List.length_cons, List.length_nil, Nat.reduceAdd, Nat.reduceSub, Array.replicate_succ, Array.replicate_zero, List.push_toArray, List.append_toArray, List.nil_append, List.cons_append]
  gi_wp2_with fail
  obtain ⟨V, hV⟩ : ∃ V, V = (w.alloc (.cells #[.pointer (some ⟨cb, 0, none⟩)] 130)).alloc (.cells #[.int .i64 (k : Int)] 3) := ⟨_, rfl⟩
  rw [← hV]
  have b1 : Below w.heap.size w V := by rw [hV]; exact ((Below.refl _ w).alloc (Nat.le_refl _) _).alloc (by simp) _
  have zV : V.heap.size = w.heap.size + 2 := by rw [hV]; simp
  have C2 := Lib.hid (show V.cell? ⟨w.heap.size, 0, none⟩ = some (.pointer (some ⟨cb, 0, none⟩)) by rw [hV]; simp [go_sem])
  have K3 := Lib.hid (show V.cell? ⟨w.heap.size + 1, 0, none⟩ = some (.int .i64 (k : Int)) by rw [hV]; simp [go_sem])
  have C0 := Lib.hid ((b1.cell (p := ⟨cb, 0, none⟩) hcb).trans hc0)
  have HCB := Lib.hid (show cb < V.heap.size by omega)
  have H2 := Lib.hid (show w.heap.size < V.heap.size by omega)
  have H3 := Lib.hid (show w.heap.size + 1 < V.heap.size by omega)
  have B1 := Lib.hid b1
  have ZV := Lib.hid zV
  clear hV b1 zV hc0
  refine wpIn_wide.2 ?_
  refine wp_region_box (PP := gsA cb P k x) (Bx := fun g W => Box15 g zPk W) (By := fun g W => ∃ q, Alike x q ∧ Box15 g q W) 11 9 10 rfl (by kernel_rfl) (by kernel_rfl) (by decide) (by decide) (by decide) (by decide) (by decide) (by kernel_rfl) (fun i v w' w'' _ _ h _ => gsA_any cb P k x i v w' w'' h) (fun i v w' w'' g _ _ h _ _ => gsA_any cb P k x i v w' w'' h) (fun g w' w'' h hb => h.then hb) (fun g w' w'' h hb => h.elim fun q hq => ⟨q, hq.1, hq.2.then hb⟩) (fun i => match i with | 9 => undef | _ => undef) (by simp [fillV, put_someT, put_noneC, setIfInBounds_toArray, set_cons_zero, set_cons_succ]) ?_ ?_ ?_ ?_
  · intro i o vs W hi hne hneA ho he hBW K hK
    simp only [take_succ_cons, take_zero, fillV, put_someT, put_noneC, setIfInBounds_toArray, set_cons_zero, set_cons_succ] at hK ⊢
    have BW := Lib.hid (B1.out.trans (hBW.mono B1.out.size))
    have HSZ := Lib.hid hBW.size
    have C2W := Lib.hid ((hBW.cell (p := ⟨w.heap.size, 0, none⟩) H2.out).trans C2.out)
    have C0W := Lib.hid ((hBW.cell (p := ⟨cb, 0, none⟩) HCB.out).trans C0.out)
    have K3W := Lib.hid ((hBW.cell (p := ⟨w.heap.size + 1, 0, none⟩) H3.out).trans K3.out)
    obtain rfl | rfl | rfl | rfl | rfl | rfl | rfl | rfl | rfl | rfl | rfl := (show i = 0 ∨ i = 1 ∨ i = 2 ∨ i = 3 ∨ i = 4 ∨ i = 5 ∨ i = 6 ∨ i = 7 ∨ i = 8 ∨ i = 9 ∨ i = 10 by exact (by have : i < 11 := hi; omega))
    · simp only [getElem?_toArray, getElem?_cons_zero, getElem?_cons_succ, Option.some.injEq] at ho
      subst ho
      rw [if_pos (by rfl)]
      simp only [put_someT, setIfInBounds_toArray, set_cons_zero, set_cons_succ] at hK
      have HK := Lib.hid hK
      clear hK he hi hne hneA hBW
      have cc := C2W.out
      go_simp
      exact HK.out _ _ rfl (Below.refl _ _)
    · simp only [getElem?_toArray, getElem?_cons_zero, getElem?_cons_succ, Option.some.injEq] at ho
      subst ho
      have e0 : vs 0 = .pointer (some ⟨cb, 0, none⟩) := (he ⟨0, .data⟩ (by simp) rfl (by decide) (by decide) : gsA cb P k x 0 (vs 0) W)
      rw [e0] at hK ⊢
      rw [if_pos (by rfl)]
      simp only [put_someT, setIfInBounds_toArray, set_cons_zero, set_cons_succ] at hK
      have HK := Lib.hid hK
      clear hK he hi hne hneA hBW
      go_simp
      exact HK.out _ _ (by first | rfl | simp [gsA]) (Below.refl _ _)
    · simp only [getElem?_toArray, getElem?_cons_zero, getElem?_cons_succ, Option.some.injEq] at ho
      subst ho
      have e1 : vs 1 = .pointer (some ⟨cb, 0, none⟩) := (he ⟨1, .data⟩ (by simp) rfl (by decide) (by decide) : gsA cb P k x 1 (vs 1) W)
      rw [e1] at hK ⊢
      rw [if_pos (by rfl)]
      simp only [put_someT, setIfInBounds_toArray, set_cons_zero, set_cons_succ] at hK
      have HK := Lib.hid hK
      clear hK he hi hne hneA hBW
      go_simp
      exact HK.out _ _ (by first | rfl | simp [gsA]) (Below.refl _ _)
    · simp only [getElem?_toArray, getElem?_cons_zero, getElem?_cons_succ, Option.some.injEq] at ho
      subst ho
      have e2 : vs 2 = .pointer (some ⟨cb, 0, none⟩) := (he ⟨2, .data⟩ (by simp) rfl (by decide) (by decide) : gsA cb P k x 2 (vs 2) W)
      rw [e2] at hK ⊢
      rw [if_pos (by rfl)]
      simp only [put_someT, setIfInBounds_toArray, set_cons_zero, set_cons_succ] at hK
      have HK := Lib.hid hK
      clear hK he hi hne hneA hBW
      have cc := C0W.out
      go_simp
      exact HK.out _ _ rfl (Below.refl _ _)
    · simp only [getElem?_toArray, getElem?_cons_zero, getElem?_cons_succ, Option.some.injEq] at ho
      subst ho
      rw [if_pos (by rfl)]
      simp only [put_someT, setIfInBounds_toArray, set_cons_zero, set_cons_succ] at hK
      have HK := Lib.hid hK
      clear hK he hi hne hneA hBW
      have cc := K3W.out
      go_simp
      exact HK.out _ _ rfl (Below.refl _ _)
    · simp only [getElem?_toArray, getElem?_cons_zero, getElem?_cons_succ, Option.some.injEq] at ho
      subst ho
      have e3 : vs 3 = .pointer (some ⟨P, 0, none⟩) := (he ⟨3, .data⟩ (by simp) rfl (by decide) (by decide) : gsA cb P k x 3 (vs 3) W)
      rw [e3] at hK ⊢
      have e4 : vs 4 = .int .i64 (k : Int) := (he ⟨4, .data⟩ (by simp) rfl (by decide) (by decide) : gsA cb P k x 4 (vs 4) W)
      rw [e4] at hK ⊢
      rw [if_pos (by rfl)]
      simp only [put_someT, setIfInBounds_toArray, set_cons_zero, set_cons_succ] at hK
      have HK := Lib.hid hK
      clear hK he hi hne hneA hBW
      have PKW := PK.out W BW.out
      unfold Pk.val at PKW
      go_simp
      go_at_call 48
      refine PKW.mono ?_
      rintro en w9 ⟨q, rfl, ha, h⟩
      go_simp
      exact HK.out _ _ ⟨q, rfl, ha⟩ h
    · simp only [getElem?_toArray, getElem?_cons_zero, getElem?_cons_succ, Option.some.injEq] at ho
      subst ho
      obtain ⟨q5, e5, ha5⟩ := (he ⟨5, .data⟩ (by simp) rfl (by decide) (by decide) : gsA cb P k x 5 (vs 5) W)
      rw [e5] at hK ⊢
      rw [if_pos (by rfl)]
      simp only [put_someT, setIfInBounds_toArray, set_cons_zero, set_cons_succ] at hK
      have HK := Lib.hid hK
      clear hK he hi hne hneA hBW
      go_simp
      exact HK.out _ _ ⟨q5, rfl, ha5⟩ (Below.refl _ _)
    · simp only [getElem?_toArray, getElem?_cons_zero, getElem?_cons_succ, Option.some.injEq] at ho
      subst ho
      obtain ⟨q6, e6, ha6⟩ := (he ⟨6, .data⟩ (by simp) rfl (by decide) (by decide) : gsA cb P k x 6 (vs 6) W)
      rw [e6] at hK ⊢
      rw [if_pos (by rfl)]
      simp only [put_someT, setIfInBounds_toArray, set_cons_zero, set_cons_succ] at hK
      have HK := Lib.hid hK
      clear hK he hi hne hneA hBW
      go_simp
      exact HK.out _ _ ⟨q6, rfl, ha6⟩ (Below.refl _ _)
    · simp only [getElem?_toArray, getElem?_cons_zero, getElem?_cons_succ, Option.some.injEq] at ho
      subst ho
      obtain ⟨q6, e6, ha6⟩ := (he ⟨6, .data⟩ (by simp) rfl (by decide) (by decide) : gsA cb P k x 6 (vs 6) W)
      rw [e6] at hK ⊢
      rw [if_pos (by rfl)]
      simp only [put_someT, setIfInBounds_toArray, set_cons_zero, set_cons_succ] at hK
      have HK := Lib.hid hK
      clear hK he hi hne hneA hBW
      go_simp
      exact HK.out _ _ rfl (Below.refl _ _)
    · exact absurd rfl hneA
    · exact absurd rfl hne
  · intro o vs W ho hBW K hK
    simp only [take_succ_cons, take_zero, fillV, put_someT, put_noneC, setIfInBounds_toArray, set_cons_zero, set_cons_succ] at hK ⊢
    have BW := Lib.hid (B1.out.trans (hBW.mono B1.out.size))
    have HSZ := Lib.hid hBW.size
    have C2W := Lib.hid ((hBW.cell (p := ⟨w.heap.size, 0, none⟩) H2.out).trans C2.out)
    have C0W := Lib.hid ((hBW.cell (p := ⟨cb, 0, none⟩) HCB.out).trans C0.out)
    have K3W := Lib.hid ((hBW.cell (p := ⟨w.heap.size + 1, 0, none⟩) H3.out).trans K3.out)
    simp only [getElem?_toArray, getElem?_cons_zero, getElem?_cons_succ, Option.some.injEq] at ho
    subst ho
    rw [if_pos (by rfl)]
    simp only [put_someT, setIfInBounds_toArray, set_cons_zero, set_cons_succ] at hK
    have HK := Lib.hid hK
    clear hK hBW
    go_simp
    exact HK.out _ _ HSZ.out (Box15.new W) ((Below.refl _ _).alloc (Nat.le_refl _) _)
  · intro o vs W g ho he e9 hgw hbx hBW K hK
    simp only [take_succ_cons, take_zero, fillV, put_someT, put_noneC, setIfInBounds_toArray, set_cons_zero, set_cons_succ] at hK ⊢
    have BW := Lib.hid (B1.out.trans (hBW.mono B1.out.size))
    have HSZ := Lib.hid hBW.size
    have C2W := Lib.hid ((hBW.cell (p := ⟨w.heap.size, 0, none⟩) H2.out).trans C2.out)
    have C0W := Lib.hid ((hBW.cell (p := ⟨cb, 0, none⟩) HCB.out).trans C0.out)
    have K3W := Lib.hid ((hBW.cell (p := ⟨w.heap.size + 1, 0, none⟩) H3.out).trans K3.out)
    simp only [getElem?_toArray, getElem?_cons_zero, getElem?_cons_succ, Option.some.injEq] at ho
    subst ho
    rw [e9] at hK ⊢
    obtain ⟨q7, e7, ha7⟩ := (he ⟨7, .data⟩ (by simp) rfl (by decide) (by decide) : gsA cb P k x 7 (vs 7) W)
    rw [e7] at hK ⊢
    rw [if_pos (by rfl)]
    simp only [put_someT, setIfInBounds_toArray, set_cons_zero, set_cons_succ] at hK
    have HK := Lib.hid hK
    clear hK he hBW
    have BS := Lib.hid (hbx.set q7)
    have BR := Lib.hid (setL_butR g q7.cells 0 W)
    have HGW := Lib.hid hgw
    obtain ⟨⟨zl, z0, z1, z2, z3, z4, z5, z6, z7, z8, z9, z10, z11, z12, z13, z14⟩, fz, _⟩ := hbx
    have f0 := fz 0 (by omega)
    have f1 := fz 1 (by omega)
    have f2 := fz 2 (by omega)
    have f3 := fz 3 (by omega)
    have f4 := fz 4 (by omega)
    have f5 := fz 5 (by omega)
    have f6 := fz 6 (by omega)
    have f7 := fz 7 (by omega)
    have f8 := fz 8 (by omega)
    have f9 := fz 9 (by omega)
    have f10 := fz 10 (by omega)
    have f11 := fz 11 (by omega)
    have f12 := fz 12 (by omega)
    have f13 := fz 13 (by omega)
    have f14 := fz 14 (by omega)
    clear fz zl hgw
    unfold zPk at z0 z1 z2 z3 z4 z5 z6 z7 z8 z9 z10 z11 z12 z13 z14
    unfold Pk.val at HK ⊢
    go_simp
    exact HK.out undef _ ⟨q7, ha7, BS.out⟩ (grown_butR BR.out)
  · intro vs W g hall e9 hgw hBy hBW
    have e8 : vs 8 = .int .i64 0 := (hall 8 (by decide) (by decide) (by decide) : gsA cb P k x 8 (vs 8) W)
    obtain ⟨q, ha, hbx⟩ := hBy
    simp only [take_succ_cons, take_zero, List.drop_succ_cons, List.drop_zero, fillV, put_someT, put_noneC, setIfInBounds_toArray, set_cons_zero, set_cons_succ]
    rw [e8, e9]
    have CS := Lib.hid (fun t u => CoAt.start (L := L) (w := w) (V := V) (W := W) (cb := cb) (k := k) (g := g) (q := q) (B1.out.trans (hBW.mono B1.out.size)) ZV.out hBW C2.out K3.out (by have := ZV.out; omega) hbx t u)
    have HA := Lib.hid ha
    generalize vs 0 = q0
    generalize vs 1 = q1
    generalize vs 2 = q2
    generalize vs 3 = q3
    generalize vs 4 = q4
    generalize vs 5 = q5
    generalize vs 6 = q6
    generalize vs 7 = q7
    clear hall e8 e9 hgw ha hbx hBW C2 K3 C0 HCB H2 H3 B1 PK
    go_wp2_with fail
    gi_wp2_with fail
    have GA := Lib.hid (CS.out 179 4)
    obtain ⟨kb, hkb⟩ : ∃ kb, kb = W.heap.size := ⟨_, rfl⟩
    rw [← hkb] at GA ⊢
    clear hkb CS
    generalize (W.alloc (.cells #[.slice none 0 0] 179)).alloc (.cells #[.bool false] 4) = W2 at *
    obtain ⟨n, hn9⟩ : ∃ n, n = L.length := ⟨_, rfl⟩
    have HN9 := Lib.hid hn9
    clear hn9
    have G2S := Lib.hid GA.out.hz
    refine wpIn_wide.2 ?_
    refine wp_region_tail (PP := gsB cb P I0 n) 6 rfl (by kernel_rfl) (by kernel_rfl) (by decide) (by decide) (gsB_mono cb P I0 n) (fun _ => undef) (by simp [fillV, put_someT, setIfInBounds_toArray, set_cons_zero, set_cons_succ]) ?_ ?_
    · intro i o vs W hi ho he hBW K hK
      simp only [take_succ_cons, take_zero, fillV, put_someT, setIfInBounds_toArray, set_cons_zero, set_cons_succ] at hK ⊢
      have GW := Lib.hid (GA.out.then hBW)
      have C2W := Lib.hid GW.out.c2
      have CH := HC.out.then GW.out.old
      have C0W := Lib.hid CH.c0
      have CPW := Lib.hid CH.cp
      clear CH
      obtain rfl | rfl | rfl | rfl | rfl | rfl := (show i = 0 ∨ i = 1 ∨ i = 2 ∨ i = 3 ∨ i = 4 ∨ i = 5 by exact (by have : i < 6 := hi; omega))
      · simp only [getElem?_toArray, getElem?_cons_zero, getElem?_cons_succ, Option.some.injEq] at ho
        subst ho
        rw [if_pos (by rfl)]
        simp only [put_someT, setIfInBounds_toArray, set_cons_zero, set_cons_succ] at hK
        have HK := Lib.hid hK
        clear hK he hi hBW
        have cc := C2W.out
        go_simp
        exact HK.out _ _ rfl (Below.refl _ _)
      · simp only [getElem?_toArray, getElem?_cons_zero, getElem?_cons_succ, Option.some.injEq] at ho
        subst ho
        rw [if_pos (by rfl)]
        simp only [put_someT, setIfInBounds_toArray, set_cons_zero, set_cons_succ] at hK
        have HK := Lib.hid hK
        clear hK he hi hBW
        have cc := C2W.out
        go_simp
        exact HK.out _ _ rfl (Below.refl _ _)
      · simp only [getElem?_toArray, getElem?_cons_zero, getElem?_cons_succ, Option.some.injEq] at ho
        subst ho
        have e1 : vs 1 = .pointer (some ⟨cb, 0, none⟩) := (he ⟨1, .data⟩ (by simp) rfl : gsB cb P I0 n 1 (vs 1) W)
        rw [e1] at hK ⊢
        rw [if_pos (by rfl)]
        simp only [put_someT, setIfInBounds_toArray, set_cons_zero, set_cons_succ] at hK
        have HK := Lib.hid hK
        clear hK he hi hBW
        go_simp
        exact HK.out _ _ (by first | rfl | simp [gsB]) (Below.refl _ _)
      · simp only [getElem?_toArray, getElem?_cons_zero, getElem?_cons_succ, Option.some.injEq] at ho
        subst ho
        have e2 : vs 2 = .pointer (some ⟨cb, 0, none⟩) := (he ⟨2, .data⟩ (by simp) rfl : gsB cb P I0 n 2 (vs 2) W)
        rw [e2] at hK ⊢
        rw [if_pos (by rfl)]
        simp only [put_someT, setIfInBounds_toArray, set_cons_zero, set_cons_succ] at hK
        have HK := Lib.hid hK
        clear hK he hi hBW
        go_simp
        exact HK.out _ _ (by first | rfl | simp [gsB]) (Below.refl _ _)
      · simp only [getElem?_toArray, getElem?_cons_zero, getElem?_cons_succ, Option.some.injEq] at ho
        subst ho
        have e3 : vs 3 = .pointer (some ⟨cb, 0, none⟩) := (he ⟨3, .data⟩ (by simp) rfl : gsB cb P I0 n 3 (vs 3) W)
        rw [e3] at hK ⊢
        rw [if_pos (by rfl)]
        simp only [put_someT, setIfInBounds_toArray, set_cons_zero, set_cons_succ] at hK
        have HK := Lib.hid hK
        clear hK he hi hBW
        have cc := C0W.out
        go_simp
        exact HK.out _ _ rfl (Below.refl _ _)
      · simp only [getElem?_toArray, getElem?_cons_zero, getElem?_cons_succ, Option.some.injEq] at ho
        subst ho
        have e4 : vs 4 = .pointer (some ⟨P, 0, none⟩) := (he ⟨4, .data⟩ (by simp) rfl : gsB cb P I0 n 4 (vs 4) W)
        rw [e4] at hK ⊢
        rw [if_pos (by rfl)]
        simp only [put_someT, setIfInBounds_toArray, set_cons_zero, set_cons_succ] at hK
        have HK := Lib.hid hK
        clear hK he hi hBW
        go_simp
        go_at_call 86
        refine (poolinst_cell CPW.out).mono ?_
        rintro en w9 ⟨rfl, h⟩
        go_simp
        exact HK.out _ _ rfl h
    · intro vs W3 hall hBW
      have e0 : vs 0 = .pointer (some ⟨cb, 0, none⟩) := (hall 0 (by decide) : gsB cb P I0 n 0 (vs 0) W3)
      have e5 : vs 5 = .int .i64 (I0 : Int) := (hall 5 (by decide) : gsB cb P I0 n 5 (vs 5) W3)
      simp only [take_succ_cons, take_zero, List.drop_succ_cons, List.drop_zero, fillV, put_someT, put_noneC, setIfInBounds_toArray, set_cons_zero, set_cons_succ]
      rw [e0, e5]
      have G3 := Lib.hid (GA.out.then hBW)
      generalize vs 1 = y1
      generalize vs 2 = y2
      generalize vs 3 = y3
      generalize vs 4 = y4
      clear hall hBW e0 e5 GA
      go_wp2_with fail
      go_at_call 84
      refine (stall_any cb ((0 : Nat) : Int) (I0 : Int) W3).mono ?_
      rintro e W4 ⟨rfl, f1, f2, f3, hb4, hz4⟩
      have G4 := Lib.hid (G3.out.then hb4)
      have F1 := Lib.hid f1
      have F2 := Lib.hid f2
      have F3 := Lib.hid f3
      have Z4 := Lib.hid hz4
      have H3 := Lib.hid G3.out.hz
      have Z3 := Lib.hid G3.out.old.size
      clear f1 f2 f3 hb4 hz4 G3
      go_wp2_with fail
      gi_wp2_with fail
      have CH4 := HC.out.then G4.out.old
      have NM0 := Lib.hid (show ∀ (m : Nat) (hm : m < L.length) (y : Pk), Alike L[m].pk y → nmP L m k = decide (y.name = q.name) from fun m hm y hy => by
        unfold nmP; rw [List.getElem?_eq_getElem hm, List.getElem?_eq_getElem hk]
        show decide (L[m].pk.name = L[k].pk.name) = _
        rw [hy.name, HA.out.name, hx])
      have zz := H3.out
      have z3 := Z3.out
      refine wpIn_rangeFunc_ownA rfl (by decide) (gf := 131) (lb := #[.pointer (some ⟨W3.heap.size + 1, 0, none⟩), .pointer (some ⟨W3.heap.size + 2, 0, none⟩), .pointer (some ⟨W3.heap.size, 0, none⟩)]) rfl trivial (enters_of Tryz.func131 (by kernel_rfl) rfl)
        (stall_stops 7 (W3.heap.size + 1) (W3.heap.size + 2) W3.heap.size cb P L.length I0 0 I0 inb (fun b => b = kb ∨ b = kb + 1) W4 (Nat.zero_le _) hI0 hn ⟨by simp; omega, by simp; omega, by simp; omega⟩ F1.out F2.out F3.out (CH4.weak fun b hb => by rcases hb with rfl | rfl <;> omega)) (fun h k => h.trans k) (fun W l o o' _ h hc _ => kx_b W l o o' h hc) (Below.refl _ _) (fun _ => rfl)
        (CoI L w cb k g kb q) (CoX) (CoI.own (by have := G4.out.old.size; omega)) (fun c => CoX.own c) G4.out (fun a x _ => { tmps := (a.tmps.setIfInBounds 29 (.int .i64 (x.1 : Int))).setIfInBounds 9 (.int .i64 (x.1 : Int)), defers := [] }) (fun _ _ _ => True) (fun x a' => fun _ _ _ _ h _ _ => h) ?assign ?body ?done ?stop
      case assign =>
        rintro l pre x W K h hK
        unfold chgArgs
        gi_wp2
        refine hK _ _ (KeepsFrom.refl _ _) (KX.refl _ _) h ⟨0, ?_, trivial⟩
        rfl
      case body =>
        rintro l pre y b W hl0 h2 _ hlt
        obtain ⟨m, hm9⟩ : ∃ m, m = y.1 := ⟨_, rfl⟩
        have hml : m < L.length := by have := y.2.1.2; omega
        rw [← hm9]
        obtain ⟨bp, hbp⟩ : ∃ bp, bp = St.bestOf (nmP L) (cmpI2 L) k (pre.map fun y => y.1) none := ⟨_, rfl⟩
        obtain ⟨ov, hov⟩ : ∃ ov, ov = pre.any fun y => obsP L (k : Int) (y.1 : Int) := ⟨_, rfl⟩
        have GB : Hid (CoAt L w cb k g kb q bp ov W) := Lib.hid (by rw [hbp, hov]; exact h2)
        have BS := Lib.hid (show St.bestOf (nmP L) (cmpI2 L) k ((pre ++ [y]).map fun y => y.1) none = St.bestStep (nmP L) (cmpI2 L) k bp m by rw [hbp, hm9]; unfold St.bestOf; rw [List.map_append, List.foldl_append]; rfl)
        have OS := Lib.hid (show ((pre ++ [y]).any fun y => obsP L (k : Int) (y.1 : Int)) = (ov || obsP L (k : Int) (m : Int)) by rw [hov, hm9, List.any_append]; simp)
        have PM := Lib.hid (fun W' (hb : Below w.heap.size w W') => poolpkg_any (HP.out.then hb) hml hn)
        have PO := Lib.hid (fun W' (hb : Below w.heap.size w W') => poolobs_any (HP.out.then hb) (k : Int) (m : Int) hn)
        have CM := Lib.hid (fun (j : Nat) (hj : j < L.length) (p r : Pk) (h1 : Alike L[m].pk p) (h2 : Alike L[j].pk r) W' => cmp_alike HP.out hml hj h1 h2 W')
        have NMM := Lib.hid (NM0.out m hml)
        have HML := Lib.hid hml
        have CB := HC.out.then GB.out.old
        have c2 := GB.out.c2
        have cc0 := CB.c0
        clear h2 hbp hov hm9 hlt CB zz z3 CH4 F1 F2 F3 NM0
        simp only [setIfInBounds_toArray, set_cons_zero, set_cons_succ]
        gi_wp2_with fail
        refine ⟨trivial, ?_⟩
        gi_at_call 48
        refine (CallsIn.inRound l (callsIn_wide.2 (PM.out _ GB.out.old))).mono ?_
        rintro e w9 ⟨q9, rfl, ha9, h9⟩
        have NME := Lib.hid (NMM.out q9 ha9)
        have HA9 := Lib.hid ha9
        have B9 := Lib.hid (h9.alloc h9.size (.cells #[.string q9.name, .int .i64 q9.epoch, .string q9.ver, .string q9.rel, .int .u8 q9.arch, .string q9.vendor, .slice q9.provA q9.prov.length q9.provC, .slice q9.reqA q9.req.length q9.reqC, .slice q9.conA q9.con.length q9.conC, .slice q9.obsA q9.obs.length q9.obsC, .slice q9.rcmA q9.rcm.length q9.rcmC, .slice q9.supA q9.sup.length q9.supC, .slice q9.sugA q9.sug.length q9.sugC, .slice q9.enhA q9.enh.length q9.enhC, .slice q9.filesA q9.files.length q9.filesC] 28))
        have G9 := Lib.hid (GB.out.then B9.out)
        clear h9 ha9 c2 cc0 GB
        unfold Pk.val
        gi_wp2_with fail
        have Y0 := Lib.hid (show (w9.alloc (.cells #[.string q9.name, .int .i64 q9.epoch, .string q9.ver, .string q9.rel, .int .u8 q9.arch, .string q9.vendor, .slice q9.provA q9.prov.length q9.provC, .slice q9.reqA q9.req.length q9.reqC, .slice q9.conA q9.con.length q9.conC, .slice q9.obsA q9.obs.length q9.obsC, .slice q9.rcmA q9.rcm.length q9.rcmC, .slice q9.supA q9.sup.length q9.supC, .slice q9.sugA q9.sug.length q9.sugC, .slice q9.enhA q9.enh.length q9.enhC, .slice q9.filesA q9.files.length q9.filesC] 28)).cell? ⟨w9.heap.size, 0, none⟩ = some (.string q9.name) from by simp [go_sem])
        have Y1 := Lib.hid (show (w9.alloc (.cells #[.string q9.name, .int .i64 q9.epoch, .string q9.ver, .string q9.rel, .int .u8 q9.arch, .string q9.vendor, .slice q9.provA q9.prov.length q9.provC, .slice q9.reqA q9.req.length q9.reqC, .slice q9.conA q9.con.length q9.conC, .slice q9.obsA q9.obs.length q9.obsC, .slice q9.rcmA q9.rcm.length q9.rcmC, .slice q9.supA q9.sup.length q9.supC, .slice q9.sugA q9.sug.length q9.sugC, .slice q9.enhA q9.enh.length q9.enhC, .slice q9.filesA q9.files.length q9.filesC] 28)).cell? ⟨w9.heap.size, 1, none⟩ = some (.int .i64 q9.epoch) from by simp [go_sem])
        have Y2 := Lib.hid (show (w9.alloc (.cells #[.string q9.name, .int .i64 q9.epoch, .string q9.ver, .string q9.rel, .int .u8 q9.arch, .string q9.vendor, .slice q9.provA q9.prov.length q9.provC, .slice q9.reqA q9.req.length q9.reqC, .slice q9.conA q9.con.length q9.conC, .slice q9.obsA q9.obs.length q9.obsC, .slice q9.rcmA q9.rcm.length q9.rcmC, .slice q9.supA q9.sup.length q9.supC, .slice q9.sugA q9.sug.length q9.sugC, .slice q9.enhA q9.enh.length q9.enhC, .slice q9.filesA q9.files.length q9.filesC] 28)).cell? ⟨w9.heap.size, 2, none⟩ = some (.string q9.ver) from by simp [go_sem])
        have Y3 := Lib.hid (show (w9.alloc (.cells #[.string q9.name, .int .i64 q9.epoch, .string q9.ver, .string q9.rel, .int .u8 q9.arch, .string q9.vendor, .slice q9.provA q9.prov.length q9.provC, .slice q9.reqA q9.req.length q9.reqC, .slice q9.conA q9.con.length q9.conC, .slice q9.obsA q9.obs.length q9.obsC, .slice q9.rcmA q9.rcm.length q9.rcmC, .slice q9.supA q9.sup.length q9.supC, .slice q9.sugA q9.sug.length q9.sugC, .slice q9.enhA q9.enh.length q9.enhC, .slice q9.filesA q9.files.length q9.filesC] 28)).cell? ⟨w9.heap.size, 3, none⟩ = some (.string q9.rel) from by simp [go_sem])
        generalize w9.alloc (.cells #[.string q9.name, .int .i64 q9.epoch, .string q9.ver, .string q9.rel, .int .u8 q9.arch, .string q9.vendor, .slice q9.provA q9.prov.length q9.provC, .slice q9.reqA q9.req.length q9.reqC, .slice q9.conA q9.con.length q9.conC, .slice q9.obsA q9.obs.length q9.obsC, .slice q9.rcmA q9.rcm.length q9.rcmC, .slice q9.supA q9.sup.length q9.supC, .slice q9.sugA q9.sug.length q9.sugC, .slice q9.enhA q9.enh.length q9.enhC, .slice q9.filesA q9.files.length q9.filesC] 28) = W9 at *
        generalize w9.heap.size = yb at *
        have X0 := Lib.hid G9.out.x0
        obtain ⟨bv, bc, hbi, hbn⟩ := G9.out.bc
        have BC := Lib.hid bc
        have BI := Lib.hid hbi
        clear bc hbi hbn
        by_cases hnm : q9.name = q.name
        · have NT := Lib.hid (show nmP L m k = true by rw [NME.out]; exact decide_eq_true hnm)
          have HEQ := Lib.hid hnm
          clear hnm
          cases bp with
          | none =>
            have BPE := Lib.hid (rfl : (none : Option Nat) = none)
            obtain rfl : bv = .slice none 0 0 := BI.out
            refine wpIn_region_tail (PP := co7B yb g q9 q) 19 rfl (by kernel_rfl) (by kernel_rfl) (by decide) (by decide) (co7B_mono yb g q9 q) (fun _ => undef) (by simp [fillV, put_someT, setIfInBounds_toArray, set_cons_zero, set_cons_succ]) ?_ ?_
            · intro i o vs W hi ho he hBW K hK
              simp only [take_succ_cons, take_zero, fillV, put_someT, setIfInBounds_toArray, set_cons_zero, set_cons_succ] at hK ⊢
              have X0W := Lib.hid ((hBW.cell (p := ⟨g, 0, none⟩) (World.block_lt_of_cell? W9 _ X0.out)).trans X0.out)
              have Y0W := Lib.hid ((hBW.cell (p := ⟨yb, 0, none⟩) (World.block_lt_of_cell? W9 _ Y0.out)).trans Y0.out)
              have Y1W := Lib.hid ((hBW.cell (p := ⟨yb, 1, none⟩) (World.block_lt_of_cell? W9 _ Y1.out)).trans Y1.out)
              have Y2W := Lib.hid ((hBW.cell (p := ⟨yb, 2, none⟩) (World.block_lt_of_cell? W9 _ Y2.out)).trans Y2.out)
              have Y3W := Lib.hid ((hBW.cell (p := ⟨yb, 3, none⟩) (World.block_lt_of_cell? W9 _ Y3.out)).trans Y3.out)
              have BCW := Lib.hid ((hBW.cell (p := ⟨kb, 0, none⟩) (World.block_lt_of_cell? W9 _ BC.out)).trans BC.out)
              obtain rfl | rfl | rfl | rfl | rfl | rfl | rfl | rfl | rfl | rfl | rfl | rfl | rfl | rfl | rfl | rfl | rfl | rfl | rfl := (show i = 0 ∨ i = 1 ∨ i = 2 ∨ i = 3 ∨ i = 4 ∨ i = 5 ∨ i = 6 ∨ i = 7 ∨ i = 8 ∨ i = 9 ∨ i = 10 ∨ i = 11 ∨ i = 12 ∨ i = 13 ∨ i = 14 ∨ i = 15 ∨ i = 16 ∨ i = 17 ∨ i = 18 by exact (by have : i < 19 := hi; omega))
              · simp only [getElem?_toArray, getElem?_cons_zero, getElem?_cons_succ, Option.some.injEq] at ho
                subst ho
                rw [if_pos (by rfl)]
                simp only [put_someT, setIfInBounds_toArray, set_cons_zero, set_cons_succ] at hK
                have HK := Lib.hid hK
                clear hK he hi hBW
                gi_step
                exact HK.out _ _ rfl (Below.refl _ _)
              · simp only [getElem?_toArray, getElem?_cons_zero, getElem?_cons_succ, Option.some.injEq] at ho
                subst ho
                have e0 : vs 0 = .pointer (some ⟨yb, 0, none⟩) := (he ⟨0, .data⟩ (by simp) rfl : co7B yb g q9 q 0 (vs 0) W)
                rw [e0] at hK ⊢
                rw [if_pos (by rfl)]
                simp only [put_someT, setIfInBounds_toArray, set_cons_zero, set_cons_succ] at hK
                have HK := Lib.hid hK
                clear hK he hi hBW
                have ccY0W := Y0W.out
                gi_step
                exact HK.out _ _ rfl (Below.refl _ _)
              · simp only [getElem?_toArray, getElem?_cons_zero, getElem?_cons_succ, Option.some.injEq] at ho
                subst ho
                rw [if_pos (by rfl)]
                simp only [put_someT, setIfInBounds_toArray, set_cons_zero, set_cons_succ] at hK
                have HK := Lib.hid hK
                clear hK he hi hBW
                gi_step
                exact HK.out _ _ rfl (Below.refl _ _)
              · simp only [getElem?_toArray, getElem?_cons_zero, getElem?_cons_succ, Option.some.injEq] at ho
                subst ho
                have e2 : vs 2 = .pointer (some ⟨g, 0, none⟩) := (he ⟨2, .data⟩ (by simp) rfl : co7B yb g q9 q 2 (vs 2) W)
                rw [e2] at hK ⊢
                rw [if_pos (by rfl)]
                simp only [put_someT, setIfInBounds_toArray, set_cons_zero, set_cons_succ] at hK
                have HK := Lib.hid hK
                clear hK he hi hBW
                have ccX0W := X0W.out
                gi_step
                exact HK.out _ _ rfl (Below.refl _ _)
              · simp only [getElem?_toArray, getElem?_cons_zero, getElem?_cons_succ, Option.some.injEq] at ho
                subst ho
                have e1 : vs 1 = .string q9.name := (he ⟨1, .data⟩ (by simp) rfl : co7B yb g q9 q 1 (vs 1) W)
                rw [e1] at hK ⊢
                have e3 : vs 3 = .string q.name := (he ⟨3, .data⟩ (by simp) rfl : co7B yb g q9 q 3 (vs 3) W)
                rw [e3] at hK ⊢
                rw [if_pos (by rfl)]
                simp only [put_someT, setIfInBounds_toArray, set_cons_zero, set_cons_succ] at hK
                have HK := Lib.hid hK
                clear hK he hi hBW
                have eq2 := HEQ.out
                gi_step
                exact HK.out _ _ (by simp [co7B, eq2]) (Below.refl _ _)
              · simp only [getElem?_toArray, getElem?_cons_zero, getElem?_cons_succ, Option.some.injEq] at ho
                subst ho
                have e4 : vs 4 = .bool true := (he ⟨4, .data⟩ (by simp) rfl : co7B yb g q9 q 4 (vs 4) W)
                rw [e4] at hK ⊢
                rw [if_pos (by rfl)]
                simp only [put_someT, setIfInBounds_toArray, set_cons_zero, set_cons_succ] at hK
                have HK := Lib.hid hK
                clear hK he hi hBW
                gi_step
                exact HK.out _ _ rfl (Below.refl _ _)
              · simp only [getElem?_toArray, getElem?_cons_zero, getElem?_cons_succ, Option.some.injEq] at ho
                subst ho
                have e5 : vs 5 = .bool true := (he ⟨5, .guard⟩ (by simp) rfl : co7B yb g q9 q 5 (vs 5) W)
                rw [e5] at hK ⊢
                rw [if_pos (by rfl)]
                simp only [put_someT, setIfInBounds_toArray, set_cons_zero, set_cons_succ] at hK
                have HK := Lib.hid hK
                clear hK he hi hBW
                have ccBCW := BCW.out
                gi_step
                exact HK.out _ _ rfl (Below.refl _ _)
              · simp only [getElem?_toArray, getElem?_cons_zero, getElem?_cons_succ, Option.some.injEq] at ho
                subst ho
                have e6 : vs 6 = .slice none 0 0 := (he ⟨6, .data⟩ (by simp) rfl : co7B yb g q9 q 6 (vs 6) W)
                rw [e6] at hK ⊢
                have e5 : vs 5 = .bool true := (he ⟨5, .guard⟩ (by simp) rfl : co7B yb g q9 q 5 (vs 5) W)
                rw [e5] at hK ⊢
                rw [if_pos (by rfl)]
                simp only [put_someT, setIfInBounds_toArray, set_cons_zero, set_cons_succ] at hK
                have HK := Lib.hid hK
                clear hK he hi hBW
                gi_step
                exact HK.out _ _ rfl (Below.refl _ _)
              · simp only [getElem?_toArray, getElem?_cons_zero, getElem?_cons_succ, Option.some.injEq] at ho
                subst ho
                have e7 : vs 7 = .int .i64 0 := (he ⟨7, .data⟩ (by simp) rfl : co7B yb g q9 q 7 (vs 7) W)
                rw [e7] at hK ⊢
                have e5 : vs 5 = .bool true := (he ⟨5, .guard⟩ (by simp) rfl : co7B yb g q9 q 5 (vs 5) W)
                rw [e5] at hK ⊢
                rw [if_pos (by rfl)]
                simp only [put_someT, setIfInBounds_toArray, set_cons_zero, set_cons_succ] at hK
                have HK := Lib.hid hK
                clear hK he hi hBW
                gi_step
                exact HK.out _ _ rfl (Below.refl _ _)
              · simp only [getElem?_toArray, getElem?_cons_zero, getElem?_cons_succ, Option.some.injEq] at ho
                subst ho
                have e8 : vs 8 = .bool true := (he ⟨8, .data⟩ (by simp) rfl : co7B yb g q9 q 8 (vs 8) W)
                rw [e8] at hK ⊢
                have e5 : vs 5 = .bool true := (he ⟨5, .guard⟩ (by simp) rfl : co7B yb g q9 q 5 (vs 5) W)
                rw [e5] at hK ⊢
                rw [if_pos (by rfl)]
                simp only [put_someT, setIfInBounds_toArray, set_cons_zero, set_cons_succ] at hK
                have HK := Lib.hid hK
                clear hK he hi hBW
                gi_step
                exact HK.out _ _ rfl (Below.refl _ _)
              · simp only [getElem?_toArray, getElem?_cons_zero, getElem?_cons_succ, Option.some.injEq] at ho
                subst ho
                have e9 : vs 9 = .bool true := (he ⟨9, .guard⟩ (by simp) rfl : co7B yb g q9 q 9 (vs 9) W)
                rw [e9] at hK ⊢
                rw [if_neg (by exact Bool.false_ne_true)]
                refine ⟨fun _ _ => trivial, ?_⟩
                exact hK _ _ rfl (Below.refl _ _)
              · simp only [getElem?_toArray, getElem?_cons_zero, getElem?_cons_succ, Option.some.injEq] at ho
                subst ho
                have e10 : vs 10 = undef := (he ⟨10, .data⟩ (by simp) rfl : co7B yb g q9 q 10 (vs 10) W)
                rw [e10] at hK ⊢
                have e9 : vs 9 = .bool true := (he ⟨9, .guard⟩ (by simp) rfl : co7B yb g q9 q 9 (vs 9) W)
                rw [e9] at hK ⊢
                rw [if_neg (by exact Bool.false_ne_true)]
                refine ⟨fun _ _ => trivial, ?_⟩
                exact hK _ _ rfl (Below.refl _ _)
              · simp only [getElem?_toArray, getElem?_cons_zero, getElem?_cons_succ, Option.some.injEq] at ho
                subst ho
                have e9 : vs 9 = .bool true := (he ⟨9, .guard⟩ (by simp) rfl : co7B yb g q9 q 9 (vs 9) W)
                rw [e9] at hK ⊢
                rw [if_neg (by exact Bool.false_ne_true)]
                refine ⟨fun _ _ => trivial, ?_⟩
                exact hK _ _ rfl (Below.refl _ _)
              · simp only [getElem?_toArray, getElem?_cons_zero, getElem?_cons_succ, Option.some.injEq] at ho
                subst ho
                have e12 : vs 12 = undef := (he ⟨12, .data⟩ (by simp) rfl : co7B yb g q9 q 12 (vs 12) W)
                rw [e12] at hK ⊢
                have e9 : vs 9 = .bool true := (he ⟨9, .guard⟩ (by simp) rfl : co7B yb g q9 q 9 (vs 9) W)
                rw [e9] at hK ⊢
                rw [if_neg (by exact Bool.false_ne_true)]
                refine ⟨fun _ _ => trivial, ?_⟩
                exact hK _ _ rfl (Below.refl _ _)
              · simp only [getElem?_toArray, getElem?_cons_zero, getElem?_cons_succ, Option.some.injEq] at ho
                subst ho
                have e13 : vs 13 = undef := (he ⟨13, .data⟩ (by simp) rfl : co7B yb g q9 q 13 (vs 13) W)
                rw [e13] at hK ⊢
                have e9 : vs 9 = .bool true := (he ⟨9, .guard⟩ (by simp) rfl : co7B yb g q9 q 9 (vs 9) W)
                rw [e9] at hK ⊢
                rw [if_neg (by exact Bool.false_ne_true)]
                refine ⟨fun _ _ => trivial, ?_⟩
                exact hK _ _ rfl (Below.refl _ _)
              · simp only [getElem?_toArray, getElem?_cons_zero, getElem?_cons_succ, Option.some.injEq] at ho
                subst ho
                have e11 : vs 11 = undef := (he ⟨11, .data⟩ (by simp) rfl : co7B yb g q9 q 11 (vs 11) W)
                rw [e11] at hK ⊢
                have e14 : vs 14 = undef := (he ⟨14, .data⟩ (by simp) rfl : co7B yb g q9 q 14 (vs 14) W)
                rw [e14] at hK ⊢
                have e9 : vs 9 = .bool true := (he ⟨9, .guard⟩ (by simp) rfl : co7B yb g q9 q 9 (vs 9) W)
                rw [e9] at hK ⊢
                rw [if_neg (by exact Bool.false_ne_true)]
                refine ⟨fun _ _ => trivial, ?_⟩
                exact hK _ _ rfl (Below.refl _ _)
              · simp only [getElem?_toArray, getElem?_cons_zero, getElem?_cons_succ, Option.some.injEq] at ho
                subst ho
                have e15 : vs 15 = undef := (he ⟨15, .data⟩ (by simp) rfl : co7B yb g q9 q 15 (vs 15) W)
                rw [e15] at hK ⊢
                have e9 : vs 9 = .bool true := (he ⟨9, .guard⟩ (by simp) rfl : co7B yb g q9 q 9 (vs 9) W)
                rw [e9] at hK ⊢
                rw [if_neg (by exact Bool.false_ne_true)]
                refine ⟨fun _ _ => trivial, ?_⟩
                exact hK _ _ rfl (Below.refl _ _)
              · simp only [getElem?_toArray, getElem?_cons_zero, getElem?_cons_succ, Option.some.injEq] at ho
                subst ho
                have e9 : vs 9 = .bool true := (he ⟨9, .data⟩ (by simp) rfl : co7B yb g q9 q 9 (vs 9) W)
                rw [e9] at hK ⊢
                have e16 : vs 16 = undef := (he ⟨16, .data⟩ (by simp) rfl : co7B yb g q9 q 16 (vs 16) W)
                rw [e16] at hK ⊢
                have e5 : vs 5 = .bool true := (he ⟨5, .guard⟩ (by simp) rfl : co7B yb g q9 q 5 (vs 5) W)
                rw [e5] at hK ⊢
                rw [if_pos (by rfl)]
                simp only [put_someT, setIfInBounds_toArray, set_cons_zero, set_cons_succ] at hK
                have HK := Lib.hid hK
                clear hK he hi hBW
                gi_step
                exact HK.out _ _ rfl (Below.refl _ _)
              · simp only [getElem?_toArray, getElem?_cons_zero, getElem?_cons_succ, Option.some.injEq] at ho
                subst ho
                have e5 : vs 5 = .bool true := (he ⟨5, .data⟩ (by simp) rfl : co7B yb g q9 q 5 (vs 5) W)
                rw [e5] at hK ⊢
                have e17 : vs 17 = .bool true := (he ⟨17, .data⟩ (by simp) rfl : co7B yb g q9 q 17 (vs 17) W)
                rw [e17] at hK ⊢
                rw [if_pos (by rfl)]
                simp only [put_someT, setIfInBounds_toArray, set_cons_zero, set_cons_succ] at hK
                have HK := Lib.hid hK
                clear hK he hi hBW
                gi_step
                exact HK.out _ _ rfl (Below.refl _ _)
            · intro vs W10 hall hBW
              have e18 : vs 18 = .bool true := (hall 18 (by decide) : co7B yb g q9 q 18 (vs 18) W10)
              simp only [take_succ_cons, take_zero, List.drop_succ_cons, List.drop_zero, fillV, put_someT, put_noneC, setIfInBounds_toArray, set_cons_zero, set_cons_succ]
              rw [e18]
              have G10 := Lib.hid (G9.out.then hBW)
              have B10 := Lib.hid (B9.out.trans (hBW.mono B9.out.size))
              have Y1X := Lib.hid ((hBW.cell (p := ⟨yb, 1, none⟩) (World.block_lt_of_cell? W9 _ Y1.out)).trans Y1.out)
              have Y2X := Lib.hid ((hBW.cell (p := ⟨yb, 2, none⟩) (World.block_lt_of_cell? W9 _ Y2.out)).trans Y2.out)
              have Y3X := Lib.hid ((hBW.cell (p := ⟨yb, 3, none⟩) (World.block_lt_of_cell? W9 _ Y3.out)).trans Y3.out)
              generalize vs 0 = r0
              generalize vs 1 = r1
              generalize vs 2 = r2
              generalize vs 3 = r3
              generalize vs 4 = r4
              generalize vs 5 = r5
              generalize vs 6 = r6
              generalize vs 7 = r7
              generalize vs 8 = r8
              generalize vs 9 = r9
              generalize vs 10 = r10
              generalize vs 11 = r11
              generalize vs 12 = r12
              generalize vs 13 = r13
              generalize vs 14 = r14
              generalize vs 15 = r15
              generalize vs 16 = r16
              generalize vs 17 = r17
              clear hall hBW e18 Y0 Y1 Y2 Y3 X0 BC BI G9 B9
              have BE := Lib.hid (show St.bestStep (nmP L) (cmpI2 L) k (none : Option Nat) m = some m by unfold St.bestStep; rw [NT.out]; rfl)
              have GL := G10.out.then ((Below.refl _ W10).alloc (Nat.le_refl _) (.cells #[.int .i64 q9.epoch, .string q9.ver, .string q9.rel] 23))
              obtain ⟨bv2, bc2, _, _⟩ := GL.bc
              have bf2 := GL.bf
              clear GL
              have GN := Lib.hid (G10.out.better HML.out HA9.out 23)
              have y1 := Y1X.out
              have y2 := Y2X.out
              have y3 := Y3X.out
              gi_wp2_with fail
              have B11 := B10.out.alloc B10.out.size (.cells #[.int .i64 q9.epoch, .string q9.ver, .string q9.rel] 23)
              have KO1 := Lib.hid ((KeepsOthers.of_grownBy (grown_below B11) (fun _ _ h => by cases h)).trans (KeepsOthers.setCell _ ⟨kb, 0, none⟩ (.slice (some ⟨W10.heap.size, 0, none⟩) 1 1)))
              have KX1 := Lib.hid ((KX.of (X := fun b => b = kb ∨ b = kb + 1) B11).trans (KX.set _ (Or.inl rfl) 0 (.slice (some ⟨W10.heap.size, 0, none⟩) 1 1)))
              clear bc2 bf2 y1 y2 y3 Y1X Y2X Y3X B11 B10 G10
              generalize (W10.alloc (.cells #[.int .i64 q9.epoch, .string q9.ver, .string q9.rel] 23)).setCell ⟨kb, 0, none⟩ (.slice (some ⟨W10.heap.size, 0, none⟩) 1 1) = W11 at *
              cases ov
              · obtain ⟨ob, hob⟩ : ∃ ob, obsP L (k : Int) (m : Int) = ob := ⟨_, rfl⟩
                have HOB := Lib.hid hob
                clear hob
                refine wpIn_region_tail (PP := co9F cb P k m ob) 10 rfl (by kernel_rfl) (by kernel_rfl) (by decide) (by decide) (co9F_mono cb P k m ob) (fun _ => undef) (by simp [fillV, put_someT, setIfInBounds_toArray, set_cons_zero, set_cons_succ]) ?_ ?_
                · intro i o vs W hi ho he hBW K hK
                  simp only [take_succ_cons, take_zero, fillV, put_someT, setIfInBounds_toArray, set_cons_zero, set_cons_succ] at hK ⊢
                  have GW := Lib.hid (GN.out.then hBW)
                  have C2W := Lib.hid GW.out.c2
                  have K3W := Lib.hid GW.out.k3
                  have C0W := Lib.hid (HC.out.then GW.out.old).c0
                  have OCW := Lib.hid GW.out.oc
                  obtain rfl | rfl | rfl | rfl | rfl | rfl | rfl | rfl | rfl | rfl := (show i = 0 ∨ i = 1 ∨ i = 2 ∨ i = 3 ∨ i = 4 ∨ i = 5 ∨ i = 6 ∨ i = 7 ∨ i = 8 ∨ i = 9 by exact (by have : i < 10 := hi; omega))
                  · simp only [getElem?_toArray, getElem?_cons_zero, getElem?_cons_succ, Option.some.injEq] at ho
                    subst ho
                    rw [if_pos (by rfl)]
                    simp only [put_someT, setIfInBounds_toArray, set_cons_zero, set_cons_succ] at hK
                    have HK := Lib.hid hK
                    clear hK he hi hBW
                    have ccOCW := OCW.out
                    gi_step
                    exact HK.out _ _ rfl (Below.refl _ _)
                  · simp only [getElem?_toArray, getElem?_cons_zero, getElem?_cons_succ, Option.some.injEq] at ho
                    subst ho
                    have e0 : vs 0 = .bool false := (he ⟨0, .data⟩ (by simp) rfl : co9F cb P k m ob 0 (vs 0) W)
                    rw [e0] at hK ⊢
                    rw [if_pos (by rfl)]
                    simp only [put_someT, setIfInBounds_toArray, set_cons_zero, set_cons_succ] at hK
                    have HK := Lib.hid hK
                    clear hK he hi hBW
                    gi_step
                    exact HK.out _ _ rfl (Below.refl _ _)
                  · simp only [getElem?_toArray, getElem?_cons_zero, getElem?_cons_succ, Option.some.injEq] at ho
                    subst ho
                    have e1 : vs 1 = .bool false := (he ⟨1, .guard⟩ (by simp) rfl : co9F cb P k m ob 1 (vs 1) W)
                    rw [e1] at hK ⊢
                    rw [if_pos (by rfl)]
                    simp only [put_someT, setIfInBounds_toArray, set_cons_zero, set_cons_succ] at hK
                    have HK := Lib.hid hK
                    clear hK he hi hBW
                    have ccC2W := C2W.out
                    gi_step
                    exact HK.out _ _ rfl (Below.refl _ _)
                  · simp only [getElem?_toArray, getElem?_cons_zero, getElem?_cons_succ, Option.some.injEq] at ho
                    subst ho
                    have e2 : vs 2 = .pointer (some ⟨cb, 0, none⟩) := (he ⟨2, .data⟩ (by simp) rfl : co9F cb P k m ob 2 (vs 2) W)
                    rw [e2] at hK ⊢
                    have e1 : vs 1 = .bool false := (he ⟨1, .guard⟩ (by simp) rfl : co9F cb P k m ob 1 (vs 1) W)
                    rw [e1] at hK ⊢
                    rw [if_pos (by rfl)]
                    simp only [put_someT, setIfInBounds_toArray, set_cons_zero, set_cons_succ] at hK
                    have HK := Lib.hid hK
                    clear hK he hi hBW
                    gi_step
                    exact HK.out _ _ rfl (Below.refl _ _)
                  · simp only [getElem?_toArray, getElem?_cons_zero, getElem?_cons_succ, Option.some.injEq] at ho
                    subst ho
                    have e3 : vs 3 = .pointer (some ⟨cb, 0, none⟩) := (he ⟨3, .data⟩ (by simp) rfl : co9F cb P k m ob 3 (vs 3) W)
                    rw [e3] at hK ⊢
                    have e1 : vs 1 = .bool false := (he ⟨1, .guard⟩ (by simp) rfl : co9F cb P k m ob 1 (vs 1) W)
                    rw [e1] at hK ⊢
                    rw [if_pos (by rfl)]
                    simp only [put_someT, setIfInBounds_toArray, set_cons_zero, set_cons_succ] at hK
                    have HK := Lib.hid hK
                    clear hK he hi hBW
                    gi_step
                    exact HK.out _ _ rfl (Below.refl _ _)
                  · simp only [getElem?_toArray, getElem?_cons_zero, getElem?_cons_succ, Option.some.injEq] at ho
                    subst ho
                    have e4 : vs 4 = .pointer (some ⟨cb, 0, none⟩) := (he ⟨4, .data⟩ (by simp) rfl : co9F cb P k m ob 4 (vs 4) W)
                    rw [e4] at hK ⊢
                    have e1 : vs 1 = .bool false := (he ⟨1, .guard⟩ (by simp) rfl : co9F cb P k m ob 1 (vs 1) W)
                    rw [e1] at hK ⊢
                    rw [if_pos (by rfl)]
                    simp only [put_someT, setIfInBounds_toArray, set_cons_zero, set_cons_succ] at hK
                    have HK := Lib.hid hK
                    clear hK he hi hBW
                    have ccC0W := C0W.out
                    gi_step
                    exact HK.out _ _ rfl (Below.refl _ _)
                  · simp only [getElem?_toArray, getElem?_cons_zero, getElem?_cons_succ, Option.some.injEq] at ho
                    subst ho
                    have e1 : vs 1 = .bool false := (he ⟨1, .guard⟩ (by simp) rfl : co9F cb P k m ob 1 (vs 1) W)
                    rw [e1] at hK ⊢
                    rw [if_pos (by rfl)]
                    simp only [put_someT, setIfInBounds_toArray, set_cons_zero, set_cons_succ] at hK
                    have HK := Lib.hid hK
                    clear hK he hi hBW
                    have ccK3W := K3W.out
                    gi_step
                    exact HK.out _ _ rfl (Below.refl _ _)
                  · simp only [getElem?_toArray, getElem?_cons_zero, getElem?_cons_succ, Option.some.injEq] at ho
                    subst ho
                    have e1 : vs 1 = .bool false := (he ⟨1, .guard⟩ (by simp) rfl : co9F cb P k m ob 1 (vs 1) W)
                    rw [e1] at hK ⊢
                    rw [if_pos (by rfl)]
                    simp only [put_someT, setIfInBounds_toArray, set_cons_zero, set_cons_succ] at hK
                    have HK := Lib.hid hK
                    clear hK he hi hBW
                    gi_step
                    exact HK.out _ _ rfl (Below.refl _ _)
                  · simp only [getElem?_toArray, getElem?_cons_zero, getElem?_cons_succ, Option.some.injEq] at ho
                    subst ho
                    have e5 : vs 5 = .pointer (some ⟨P, 0, none⟩) := (he ⟨5, .data⟩ (by simp) rfl : co9F cb P k m ob 5 (vs 5) W)
                    rw [e5] at hK ⊢
                    have e6 : vs 6 = .int .i64 (k : Int) := (he ⟨6, .data⟩ (by simp) rfl : co9F cb P k m ob 6 (vs 6) W)
                    rw [e6] at hK ⊢
                    have e7 : vs 7 = .int .i64 (m : Int) := (he ⟨7, .data⟩ (by simp) rfl : co9F cb P k m ob 7 (vs 7) W)
                    rw [e7] at hK ⊢
                    have e1 : vs 1 = .bool false := (he ⟨1, .guard⟩ (by simp) rfl : co9F cb P k m ob 1 (vs 1) W)
                    rw [e1] at hK ⊢
                    rw [if_pos (by rfl)]
                    simp only [put_someT, setIfInBounds_toArray, set_cons_zero, set_cons_succ] at hK
                    have HK := Lib.hid hK
                    clear hK he hi hBW
                    have POW := PO.out _ GW.out.old
                    rw [HOB.out] at POW
                    gi_step
                    refine ⟨trivial, ?_⟩
                    gi_at_call 133
                    refine (CallsIn.inRound l (callsIn_wide.2 POW)).mono ?_
                    rintro en w9 ⟨rfl, h⟩
                    exact HK.out _ _ rfl h
                  · simp only [getElem?_toArray, getElem?_cons_zero, getElem?_cons_succ, Option.some.injEq] at ho
                    subst ho
                    have e1 : vs 1 = .bool false := (he ⟨1, .data⟩ (by simp) rfl : co9F cb P k m ob 1 (vs 1) W)
                    rw [e1] at hK ⊢
                    have e8 : vs 8 = .bool ob := (he ⟨8, .data⟩ (by simp) rfl : co9F cb P k m ob 8 (vs 8) W)
                    rw [e8] at hK ⊢
                    rw [if_pos (by rfl)]
                    simp only [put_someT, setIfInBounds_toArray, set_cons_zero, set_cons_succ] at hK
                    have HK := Lib.hid hK
                    clear hK he hi hBW
                    gi_step
                    exact HK.out _ _ rfl (Below.refl _ _)
                · intro vs W12 hall hBW
                  have e9 : vs 9 = .bool ob := (hall 9 (by decide) : co9F cb P k m ob 9 (vs 9) W12)
                  simp only [take_succ_cons, take_zero, List.drop_succ_cons, List.drop_zero, fillV, put_someT, put_noneC, setIfInBounds_toArray, set_cons_zero, set_cons_succ]
                  rw [e9]
                  have G12 := Lib.hid (GN.out.then hBW)
                  have KO2 := Lib.hid (KO1.out.trans (KeepsOthers.of_grownBy (grown_below hBW) (fun _ _ h => by cases h)))
                  have KX2 := Lib.hid (KX1.out.trans (KX.of hBW))
                  generalize vs 0 = s0
                  generalize vs 1 = s1
                  generalize vs 2 = s2
                  generalize vs 3 = s3
                  generalize vs 4 = s4
                  generalize vs 5 = s5
                  generalize vs 6 = s6
                  generalize vs 7 = s7
                  generalize vs 8 = s8
                  clear hall hBW e9 KO1 KX1 GN
                  have oc := G12.out.oc
                  have of := G12.out.of
                  gi_wp2_with fail
                  have OE := Lib.hid (show (false || obsP L (k : Int) (m : Int)) = ob by rw [HOB.out]; rfl)
                  exact ⟨(KO2.out.trans (KeepsOthers.setCell _ _ _)).from _, KX2.out.trans (KX.set _ (Or.inr rfl) _ _), by unfold CoI; rw [BS.out, BE.out, OS.out, OE.out]; exact G12.out.setO ob⟩
              · obtain ⟨ob, hob⟩ : ∃ ob, obsP L (k : Int) (m : Int) = ob := ⟨_, rfl⟩
                have HOB := Lib.hid hob
                clear hob
                refine wpIn_region_tail (PP := co9T cb P k m ob) 10 rfl (by kernel_rfl) (by kernel_rfl) (by decide) (by decide) (co9T_mono cb P k m ob) (fun _ => undef) (by simp [fillV, put_someT, setIfInBounds_toArray, set_cons_zero, set_cons_succ]) ?_ ?_
                · intro i o vs W hi ho he hBW K hK
                  simp only [take_succ_cons, take_zero, fillV, put_someT, setIfInBounds_toArray, set_cons_zero, set_cons_succ] at hK ⊢
                  have GW := Lib.hid (GN.out.then hBW)
                  have C2W := Lib.hid GW.out.c2
                  have K3W := Lib.hid GW.out.k3
                  have C0W := Lib.hid (HC.out.then GW.out.old).c0
                  have OCW := Lib.hid GW.out.oc
                  obtain rfl | rfl | rfl | rfl | rfl | rfl | rfl | rfl | rfl | rfl := (show i = 0 ∨ i = 1 ∨ i = 2 ∨ i = 3 ∨ i = 4 ∨ i = 5 ∨ i = 6 ∨ i = 7 ∨ i = 8 ∨ i = 9 by exact (by have : i < 10 := hi; omega))
                  · simp only [getElem?_toArray, getElem?_cons_zero, getElem?_cons_succ, Option.some.injEq] at ho
                    subst ho
                    rw [if_pos (by rfl)]
                    simp only [put_someT, setIfInBounds_toArray, set_cons_zero, set_cons_succ] at hK
                    have HK := Lib.hid hK
                    clear hK he hi hBW
                    have ccOCW := OCW.out
                    gi_step
                    exact HK.out _ _ rfl (Below.refl _ _)
                  · simp only [getElem?_toArray, getElem?_cons_zero, getElem?_cons_succ, Option.some.injEq] at ho
                    subst ho
                    have e0 : vs 0 = .bool true := (he ⟨0, .data⟩ (by simp) rfl : co9T cb P k m ob 0 (vs 0) W)
                    rw [e0] at hK ⊢
                    rw [if_pos (by rfl)]
                    simp only [put_someT, setIfInBounds_toArray, set_cons_zero, set_cons_succ] at hK
                    have HK := Lib.hid hK
                    clear hK he hi hBW
                    gi_step
                    exact HK.out _ _ rfl (Below.refl _ _)
                  · simp only [getElem?_toArray, getElem?_cons_zero, getElem?_cons_succ, Option.some.injEq] at ho
                    subst ho
                    have e1 : vs 1 = .bool true := (he ⟨1, .guard⟩ (by simp) rfl : co9T cb P k m ob 1 (vs 1) W)
                    rw [e1] at hK ⊢
                    rw [if_neg (by exact Bool.false_ne_true)]
                    refine ⟨fun _ _ => trivial, ?_⟩
                    exact hK _ _ rfl (Below.refl _ _)
                  · simp only [getElem?_toArray, getElem?_cons_zero, getElem?_cons_succ, Option.some.injEq] at ho
                    subst ho
                    have e2 : vs 2 = undef := (he ⟨2, .data⟩ (by simp) rfl : co9T cb P k m ob 2 (vs 2) W)
                    rw [e2] at hK ⊢
                    have e1 : vs 1 = .bool true := (he ⟨1, .guard⟩ (by simp) rfl : co9T cb P k m ob 1 (vs 1) W)
                    rw [e1] at hK ⊢
                    rw [if_neg (by exact Bool.false_ne_true)]
                    refine ⟨fun _ _ => trivial, ?_⟩
                    exact hK _ _ rfl (Below.refl _ _)
                  · simp only [getElem?_toArray, getElem?_cons_zero, getElem?_cons_succ, Option.some.injEq] at ho
                    subst ho
                    have e3 : vs 3 = undef := (he ⟨3, .data⟩ (by simp) rfl : co9T cb P k m ob 3 (vs 3) W)
                    rw [e3] at hK ⊢
                    have e1 : vs 1 = .bool true := (he ⟨1, .guard⟩ (by simp) rfl : co9T cb P k m ob 1 (vs 1) W)
                    rw [e1] at hK ⊢
                    rw [if_neg (by exact Bool.false_ne_true)]
                    refine ⟨fun _ _ => trivial, ?_⟩
                    exact hK _ _ rfl (Below.refl _ _)
                  · simp only [getElem?_toArray, getElem?_cons_zero, getElem?_cons_succ, Option.some.injEq] at ho
                    subst ho
                    have e4 : vs 4 = undef := (he ⟨4, .data⟩ (by simp) rfl : co9T cb P k m ob 4 (vs 4) W)
                    rw [e4] at hK ⊢
                    have e1 : vs 1 = .bool true := (he ⟨1, .guard⟩ (by simp) rfl : co9T cb P k m ob 1 (vs 1) W)
                    rw [e1] at hK ⊢
                    rw [if_neg (by exact Bool.false_ne_true)]
                    refine ⟨fun _ _ => trivial, ?_⟩
                    exact hK _ _ rfl (Below.refl _ _)
                  · simp only [getElem?_toArray, getElem?_cons_zero, getElem?_cons_succ, Option.some.injEq] at ho
                    subst ho
                    have e1 : vs 1 = .bool true := (he ⟨1, .guard⟩ (by simp) rfl : co9T cb P k m ob 1 (vs 1) W)
                    rw [e1] at hK ⊢
                    rw [if_neg (by exact Bool.false_ne_true)]
                    refine ⟨fun _ _ => trivial, ?_⟩
                    exact hK _ _ rfl (Below.refl _ _)
                  · simp only [getElem?_toArray, getElem?_cons_zero, getElem?_cons_succ, Option.some.injEq] at ho
                    subst ho
                    have e1 : vs 1 = .bool true := (he ⟨1, .guard⟩ (by simp) rfl : co9T cb P k m ob 1 (vs 1) W)
                    rw [e1] at hK ⊢
                    rw [if_neg (by exact Bool.false_ne_true)]
                    refine ⟨fun _ _ => trivial, ?_⟩
                    exact hK _ _ rfl (Below.refl _ _)
                  · simp only [getElem?_toArray, getElem?_cons_zero, getElem?_cons_succ, Option.some.injEq] at ho
                    subst ho
                    have e5 : vs 5 = undef := (he ⟨5, .data⟩ (by simp) rfl : co9T cb P k m ob 5 (vs 5) W)
                    rw [e5] at hK ⊢
                    have e6 : vs 6 = undef := (he ⟨6, .data⟩ (by simp) rfl : co9T cb P k m ob 6 (vs 6) W)
                    rw [e6] at hK ⊢
                    have e7 : vs 7 = undef := (he ⟨7, .data⟩ (by simp) rfl : co9T cb P k m ob 7 (vs 7) W)
                    rw [e7] at hK ⊢
                    have e1 : vs 1 = .bool true := (he ⟨1, .guard⟩ (by simp) rfl : co9T cb P k m ob 1 (vs 1) W)
                    rw [e1] at hK ⊢
                    rw [if_neg (by exact Bool.false_ne_true)]
                    refine ⟨fun _ _ => trivial, ?_⟩
                    exact hK _ _ rfl (Below.refl _ _)
                  · simp only [getElem?_toArray, getElem?_cons_zero, getElem?_cons_succ, Option.some.injEq] at ho
                    subst ho
                    have e1 : vs 1 = .bool true := (he ⟨1, .data⟩ (by simp) rfl : co9T cb P k m ob 1 (vs 1) W)
                    rw [e1] at hK ⊢
                    have e8 : vs 8 = undef := (he ⟨8, .data⟩ (by simp) rfl : co9T cb P k m ob 8 (vs 8) W)
                    rw [e8] at hK ⊢
                    rw [if_pos (by rfl)]
                    simp only [put_someT, setIfInBounds_toArray, set_cons_zero, set_cons_succ] at hK
                    have HK := Lib.hid hK
                    clear hK he hi hBW
                    gi_step
                    exact HK.out _ _ rfl (Below.refl _ _)
                · intro vs W12 hall hBW
                  have e9 : vs 9 = .bool true := (hall 9 (by decide) : co9T cb P k m ob 9 (vs 9) W12)
                  simp only [take_succ_cons, take_zero, List.drop_succ_cons, List.drop_zero, fillV, put_someT, put_noneC, setIfInBounds_toArray, set_cons_zero, set_cons_succ]
                  rw [e9]
                  have G12 := Lib.hid (GN.out.then hBW)
                  have KO2 := Lib.hid (KO1.out.trans (KeepsOthers.of_grownBy (grown_below hBW) (fun _ _ h => by cases h)))
                  have KX2 := Lib.hid (KX1.out.trans (KX.of hBW))
                  generalize vs 0 = s0
                  generalize vs 1 = s1
                  generalize vs 2 = s2
                  generalize vs 3 = s3
                  generalize vs 4 = s4
                  generalize vs 5 = s5
                  generalize vs 6 = s6
                  generalize vs 7 = s7
                  generalize vs 8 = s8
                  clear hall hBW e9 KO1 KX1 GN
                  have oc := G12.out.oc
                  have of := G12.out.of
                  gi_wp2_with fail
                  have OE := Lib.hid (show (true || obsP L (k : Int) (m : Int)) = true by rw [HOB.out]; rfl)
                  exact ⟨(KO2.out.trans (KeepsOthers.setCell _ _ _)).from _, KX2.out.trans (KX.set _ (Or.inr rfl) _ _), by unfold CoI; rw [BS.out, BE.out, OS.out, OE.out]; exact G12.out.setO true⟩
          | some j =>
            have BPE := Lib.hid (rfl : (some j : Option Nat) = some j)
            obtain ⟨hj, r, h, har, rfl, r0, r1, r2⟩ := BI.out
            have R0 := Lib.hid r0
            have R1 := Lib.hid r1
            have R2 := Lib.hid r2
            have CMR := Lib.hid (CM.out j hj q9 r HA9.out har)
            obtain ⟨d, hd⟩ : ∃ d, cmpI2 L m j = d := ⟨_, rfl⟩
            rw [hd] at CMR
            have HDE := Lib.hid hd
            clear r0 r1 r2 hd har
            by_cases hd7 : 0 < d
            · have HD7 := Lib.hid hd7
              clear hd7
              refine wpIn_region_tail (PP := co7C yb g q9 q h r d) 19 rfl (by kernel_rfl) (by kernel_rfl) (by decide) (by decide) (co7C_mono yb g q9 q h r d) (fun _ => undef) (by simp [fillV, put_someT, setIfInBounds_toArray, set_cons_zero, set_cons_succ]) ?_ ?_
              · intro i o vs W hi ho he hBW K hK
                simp only [take_succ_cons, take_zero, fillV, put_someT, setIfInBounds_toArray, set_cons_zero, set_cons_succ] at hK ⊢
                have X0W := Lib.hid ((hBW.cell (p := ⟨g, 0, none⟩) (World.block_lt_of_cell? W9 _ X0.out)).trans X0.out)
                have Y0W := Lib.hid ((hBW.cell (p := ⟨yb, 0, none⟩) (World.block_lt_of_cell? W9 _ Y0.out)).trans Y0.out)
                have Y1W := Lib.hid ((hBW.cell (p := ⟨yb, 1, none⟩) (World.block_lt_of_cell? W9 _ Y1.out)).trans Y1.out)
                have Y2W := Lib.hid ((hBW.cell (p := ⟨yb, 2, none⟩) (World.block_lt_of_cell? W9 _ Y2.out)).trans Y2.out)
                have Y3W := Lib.hid ((hBW.cell (p := ⟨yb, 3, none⟩) (World.block_lt_of_cell? W9 _ Y3.out)).trans Y3.out)
                have BCW := Lib.hid ((hBW.cell (p := ⟨kb, 0, none⟩) (World.block_lt_of_cell? W9 _ BC.out)).trans BC.out)
                have R0W := Lib.hid ((hBW.cell (p := ⟨h, 0, none⟩) (World.block_lt_of_cell? W9 _ R0.out)).trans R0.out)
                have R1W := Lib.hid ((hBW.cell (p := ⟨h, 1, none⟩) (World.block_lt_of_cell? W9 _ R1.out)).trans R1.out)
                have R2W := Lib.hid ((hBW.cell (p := ⟨h, 2, none⟩) (World.block_lt_of_cell? W9 _ R2.out)).trans R2.out)
                obtain rfl | rfl | rfl | rfl | rfl | rfl | rfl | rfl | rfl | rfl | rfl | rfl | rfl | rfl | rfl | rfl | rfl | rfl | rfl := (show i = 0 ∨ i = 1 ∨ i = 2 ∨ i = 3 ∨ i = 4 ∨ i = 5 ∨ i = 6 ∨ i = 7 ∨ i = 8 ∨ i = 9 ∨ i = 10 ∨ i = 11 ∨ i = 12 ∨ i = 13 ∨ i = 14 ∨ i = 15 ∨ i = 16 ∨ i = 17 ∨ i = 18 by exact (by have : i < 19 := hi; omega))
                · simp only [getElem?_toArray, getElem?_cons_zero, getElem?_cons_succ, Option.some.injEq] at ho
                  subst ho
                  rw [if_pos (by rfl)]
                  simp only [put_someT, setIfInBounds_toArray, set_cons_zero, set_cons_succ] at hK
                  have HK := Lib.hid hK
                  clear hK he hi hBW
                  gi_step
                  exact HK.out _ _ rfl (Below.refl _ _)
                · simp only [getElem?_toArray, getElem?_cons_zero, getElem?_cons_succ, Option.some.injEq] at ho
                  subst ho
                  have e0 : vs 0 = .pointer (some ⟨yb, 0, none⟩) := (he ⟨0, .data⟩ (by simp) rfl : co7C yb g q9 q h r d 0 (vs 0) W)
                  rw [e0] at hK ⊢
                  rw [if_pos (by rfl)]
                  simp only [put_someT, setIfInBounds_toArray, set_cons_zero, set_cons_succ] at hK
                  have HK := Lib.hid hK
                  clear hK he hi hBW
                  have ccY0W := Y0W.out
                  gi_step
                  exact HK.out _ _ rfl (Below.refl _ _)
                · simp only [getElem?_toArray, getElem?_cons_zero, getElem?_cons_succ, Option.some.injEq] at ho
                  subst ho
                  rw [if_pos (by rfl)]
                  simp only [put_someT, setIfInBounds_toArray, set_cons_zero, set_cons_succ] at hK
                  have HK := Lib.hid hK
                  clear hK he hi hBW
                  gi_step
                  exact HK.out _ _ rfl (Below.refl _ _)
                · simp only [getElem?_toArray, getElem?_cons_zero, getElem?_cons_succ, Option.some.injEq] at ho
                  subst ho
                  have e2 : vs 2 = .pointer (some ⟨g, 0, none⟩) := (he ⟨2, .data⟩ (by simp) rfl : co7C yb g q9 q h r d 2 (vs 2) W)
                  rw [e2] at hK ⊢
                  rw [if_pos (by rfl)]
                  simp only [put_someT, setIfInBounds_toArray, set_cons_zero, set_cons_succ] at hK
                  have HK := Lib.hid hK
                  clear hK he hi hBW
                  have ccX0W := X0W.out
                  gi_step
                  exact HK.out _ _ rfl (Below.refl _ _)
                · simp only [getElem?_toArray, getElem?_cons_zero, getElem?_cons_succ, Option.some.injEq] at ho
                  subst ho
                  have e1 : vs 1 = .string q9.name := (he ⟨1, .data⟩ (by simp) rfl : co7C yb g q9 q h r d 1 (vs 1) W)
                  rw [e1] at hK ⊢
                  have e3 : vs 3 = .string q.name := (he ⟨3, .data⟩ (by simp) rfl : co7C yb g q9 q h r d 3 (vs 3) W)
                  rw [e3] at hK ⊢
                  rw [if_pos (by rfl)]
                  simp only [put_someT, setIfInBounds_toArray, set_cons_zero, set_cons_succ] at hK
                  have HK := Lib.hid hK
                  clear hK he hi hBW
                  have eq2 := HEQ.out
                  gi_step
                  exact HK.out _ _ (by simp [co7C, eq2]) (Below.refl _ _)
                · simp only [getElem?_toArray, getElem?_cons_zero, getElem?_cons_succ, Option.some.injEq] at ho
                  subst ho
                  have e4 : vs 4 = .bool true := (he ⟨4, .data⟩ (by simp) rfl : co7C yb g q9 q h r d 4 (vs 4) W)
                  rw [e4] at hK ⊢
                  rw [if_pos (by rfl)]
                  simp only [put_someT, setIfInBounds_toArray, set_cons_zero, set_cons_succ] at hK
                  have HK := Lib.hid hK
                  clear hK he hi hBW
                  gi_step
                  exact HK.out _ _ rfl (Below.refl _ _)
                · simp only [getElem?_toArray, getElem?_cons_zero, getElem?_cons_succ, Option.some.injEq] at ho
                  subst ho
                  have e5 : vs 5 = .bool true := (he ⟨5, .guard⟩ (by simp) rfl : co7C yb g q9 q h r d 5 (vs 5) W)
                  rw [e5] at hK ⊢
                  rw [if_pos (by rfl)]
                  simp only [put_someT, setIfInBounds_toArray, set_cons_zero, set_cons_succ] at hK
                  have HK := Lib.hid hK
                  clear hK he hi hBW
                  have ccBCW := BCW.out
                  gi_step
                  exact HK.out _ _ rfl (Below.refl _ _)
                · simp only [getElem?_toArray, getElem?_cons_zero, getElem?_cons_succ, Option.some.injEq] at ho
                  subst ho
                  have e6 : vs 6 = .slice (some ⟨h, 0, none⟩) 1 1 := (he ⟨6, .data⟩ (by simp) rfl : co7C yb g q9 q h r d 6 (vs 6) W)
                  rw [e6] at hK ⊢
                  have e5 : vs 5 = .bool true := (he ⟨5, .guard⟩ (by simp) rfl : co7C yb g q9 q h r d 5 (vs 5) W)
                  rw [e5] at hK ⊢
                  rw [if_pos (by rfl)]
                  simp only [put_someT, setIfInBounds_toArray, set_cons_zero, set_cons_succ] at hK
                  have HK := Lib.hid hK
                  clear hK he hi hBW
                  gi_step
                  exact HK.out _ _ rfl (Below.refl _ _)
                · simp only [getElem?_toArray, getElem?_cons_zero, getElem?_cons_succ, Option.some.injEq] at ho
                  subst ho
                  have e7 : vs 7 = .int .i64 1 := (he ⟨7, .data⟩ (by simp) rfl : co7C yb g q9 q h r d 7 (vs 7) W)
                  rw [e7] at hK ⊢
                  have e5 : vs 5 = .bool true := (he ⟨5, .guard⟩ (by simp) rfl : co7C yb g q9 q h r d 5 (vs 5) W)
                  rw [e5] at hK ⊢
                  rw [if_pos (by rfl)]
                  simp only [put_someT, setIfInBounds_toArray, set_cons_zero, set_cons_succ] at hK
                  have HK := Lib.hid hK
                  clear hK he hi hBW
                  gi_step
                  exact HK.out _ _ rfl (Below.refl _ _)
                · simp only [getElem?_toArray, getElem?_cons_zero, getElem?_cons_succ, Option.some.injEq] at ho
                  subst ho
                  have e8 : vs 8 = .bool false := (he ⟨8, .data⟩ (by simp) rfl : co7C yb g q9 q h r d 8 (vs 8) W)
                  rw [e8] at hK ⊢
                  have e5 : vs 5 = .bool true := (he ⟨5, .guard⟩ (by simp) rfl : co7C yb g q9 q h r d 5 (vs 5) W)
                  rw [e5] at hK ⊢
                  rw [if_pos (by rfl)]
                  simp only [put_someT, setIfInBounds_toArray, set_cons_zero, set_cons_succ] at hK
                  have HK := Lib.hid hK
                  clear hK he hi hBW
                  gi_step
                  exact HK.out _ _ rfl (Below.refl _ _)
                · simp only [getElem?_toArray, getElem?_cons_zero, getElem?_cons_succ, Option.some.injEq] at ho
                  subst ho
                  have e9 : vs 9 = .bool false := (he ⟨9, .guard⟩ (by simp) rfl : co7C yb g q9 q h r d 9 (vs 9) W)
                  rw [e9] at hK ⊢
                  rw [if_pos (by rfl)]
                  simp only [put_someT, setIfInBounds_toArray, set_cons_zero, set_cons_succ] at hK
                  have HK := Lib.hid hK
                  clear hK he hi hBW
                  gi_step
                  exact HK.out _ _ rfl (Below.refl _ _)
                · simp only [getElem?_toArray, getElem?_cons_zero, getElem?_cons_succ, Option.some.injEq] at ho
                  subst ho
                  have e10 : vs 10 = .pointer (some ⟨yb, 1, none⟩) := (he ⟨10, .data⟩ (by simp) rfl : co7C yb g q9 q h r d 10 (vs 10) W)
                  rw [e10] at hK ⊢
                  have e9 : vs 9 = .bool false := (he ⟨9, .guard⟩ (by simp) rfl : co7C yb g q9 q h r d 9 (vs 9) W)
                  rw [e9] at hK ⊢
                  rw [if_pos (by rfl)]
                  simp only [put_someT, setIfInBounds_toArray, set_cons_zero, set_cons_succ] at hK
                  have HK := Lib.hid hK
                  clear hK he hi hBW
                  have ccY1W := Y1W.out
                  have ccY2W := Y2W.out
                  have ccY3W := Y3W.out
                  gi_step
                  exact HK.out _ _ rfl (Below.refl _ _)
                · simp only [getElem?_toArray, getElem?_cons_zero, getElem?_cons_succ, Option.some.injEq] at ho
                  subst ho
                  have e9 : vs 9 = .bool false := (he ⟨9, .guard⟩ (by simp) rfl : co7C yb g q9 q h r d 9 (vs 9) W)
                  rw [e9] at hK ⊢
                  rw [if_pos (by rfl)]
                  simp only [put_someT, setIfInBounds_toArray, set_cons_zero, set_cons_succ] at hK
                  have HK := Lib.hid hK
                  clear hK he hi hBW
                  have ccBCW := BCW.out
                  gi_step
                  exact HK.out _ _ rfl (Below.refl _ _)
                · simp only [getElem?_toArray, getElem?_cons_zero, getElem?_cons_succ, Option.some.injEq] at ho
                  subst ho
                  have e12 : vs 12 = .slice (some ⟨h, 0, none⟩) 1 1 := (he ⟨12, .data⟩ (by simp) rfl : co7C yb g q9 q h r d 12 (vs 12) W)
                  rw [e12] at hK ⊢
                  have e9 : vs 9 = .bool false := (he ⟨9, .guard⟩ (by simp) rfl : co7C yb g q9 q h r d 9 (vs 9) W)
                  rw [e9] at hK ⊢
                  rw [if_pos (by rfl)]
                  simp only [put_someT, setIfInBounds_toArray, set_cons_zero, set_cons_succ] at hK
                  have HK := Lib.hid hK
                  clear hK he hi hBW
                  gi_step
                  exact HK.out _ _ rfl (Below.refl _ _)
                · simp only [getElem?_toArray, getElem?_cons_zero, getElem?_cons_succ, Option.some.injEq] at ho
                  subst ho
                  have e13 : vs 13 = .pointer (some ⟨h, 0, none⟩) := (he ⟨13, .data⟩ (by simp) rfl : co7C yb g q9 q h r d 13 (vs 13) W)
                  rw [e13] at hK ⊢
                  have e9 : vs 9 = .bool false := (he ⟨9, .guard⟩ (by simp) rfl : co7C yb g q9 q h r d 9 (vs 9) W)
                  rw [e9] at hK ⊢
                  rw [if_pos (by rfl)]
                  simp only [put_someT, setIfInBounds_toArray, set_cons_zero, set_cons_succ] at hK
                  have HK := Lib.hid hK
                  clear hK he hi hBW
                  have ccR0W := R0W.out
                  have ccR1W := R1W.out
                  have ccR2W := R2W.out
                  gi_step
                  exact HK.out _ _ rfl (Below.refl _ _)
                · simp only [getElem?_toArray, getElem?_cons_zero, getElem?_cons_succ, Option.some.injEq] at ho
                  subst ho
                  have e11 : vs 11 = .agg #[.int .i64 q9.epoch, .string q9.ver, .string q9.rel] := (he ⟨11, .data⟩ (by simp) rfl : co7C yb g q9 q h r d 11 (vs 11) W)
                  rw [e11] at hK ⊢
                  have e14 : vs 14 = .agg #[.int .i64 r.epoch, .string r.ver, .string r.rel] := (he ⟨14, .data⟩ (by simp) rfl : co7C yb g q9 q h r d 14 (vs 14) W)
                  rw [e14] at hK ⊢
                  have e9 : vs 9 = .bool false := (he ⟨9, .guard⟩ (by simp) rfl : co7C yb g q9 q h r d 9 (vs 9) W)
                  rw [e9] at hK ⊢
                  rw [if_pos (by rfl)]
                  simp only [put_someT, setIfInBounds_toArray, set_cons_zero, set_cons_succ] at hK
                  have HK := Lib.hid hK
                  clear hK he hi hBW
                  have CMW := CMR.out W
                  gi_step
                  refine ⟨trivial, ?_⟩
                  gi_at_call 132
                  refine (CallsIn.inRound l (callsIn_wide.2 CMW)).mono ?_
                  rintro en w9 ⟨rfl, h⟩
                  exact HK.out _ _ rfl h
                · simp only [getElem?_toArray, getElem?_cons_zero, getElem?_cons_succ, Option.some.injEq] at ho
                  subst ho
                  have e15 : vs 15 = .int .i64 d := (he ⟨15, .data⟩ (by simp) rfl : co7C yb g q9 q h r d 15 (vs 15) W)
                  rw [e15] at hK ⊢
                  have e9 : vs 9 = .bool false := (he ⟨9, .guard⟩ (by simp) rfl : co7C yb g q9 q h r d 9 (vs 9) W)
                  rw [e9] at hK ⊢
                  rw [if_pos (by rfl)]
                  simp only [put_someT, setIfInBounds_toArray, set_cons_zero, set_cons_succ] at hK
                  have HK := Lib.hid hK
                  clear hK he hi hBW
                  have hd := HD7.out
                  gi_step
                  exact HK.out _ _ (by simp [co7C, hd]) (Below.refl _ _)
                · simp only [getElem?_toArray, getElem?_cons_zero, getElem?_cons_succ, Option.some.injEq] at ho
                  subst ho
                  have e9 : vs 9 = .bool false := (he ⟨9, .data⟩ (by simp) rfl : co7C yb g q9 q h r d 9 (vs 9) W)
                  rw [e9] at hK ⊢
                  have e16 : vs 16 = .bool true := (he ⟨16, .data⟩ (by simp) rfl : co7C yb g q9 q h r d 16 (vs 16) W)
                  rw [e16] at hK ⊢
                  have e5 : vs 5 = .bool true := (he ⟨5, .guard⟩ (by simp) rfl : co7C yb g q9 q h r d 5 (vs 5) W)
                  rw [e5] at hK ⊢
                  rw [if_pos (by rfl)]
                  simp only [put_someT, setIfInBounds_toArray, set_cons_zero, set_cons_succ] at hK
                  have HK := Lib.hid hK
                  clear hK he hi hBW
                  gi_step
                  exact HK.out _ _ rfl (Below.refl _ _)
                · simp only [getElem?_toArray, getElem?_cons_zero, getElem?_cons_succ, Option.some.injEq] at ho
                  subst ho
                  have e5 : vs 5 = .bool true := (he ⟨5, .data⟩ (by simp) rfl : co7C yb g q9 q h r d 5 (vs 5) W)
                  rw [e5] at hK ⊢
                  have e17 : vs 17 = .bool true := (he ⟨17, .data⟩ (by simp) rfl : co7C yb g q9 q h r d 17 (vs 17) W)
                  rw [e17] at hK ⊢
                  rw [if_pos (by rfl)]
                  simp only [put_someT, setIfInBounds_toArray, set_cons_zero, set_cons_succ] at hK
                  have HK := Lib.hid hK
                  clear hK he hi hBW
                  gi_step
                  exact HK.out _ _ rfl (Below.refl _ _)
              · intro vs W10 hall hBW
                have e18 : vs 18 = .bool true := (hall 18 (by decide) : co7C yb g q9 q h r d 18 (vs 18) W10)
                simp only [take_succ_cons, take_zero, List.drop_succ_cons, List.drop_zero, fillV, put_someT, put_noneC, setIfInBounds_toArray, set_cons_zero, set_cons_succ]
                rw [e18]
                have G10 := Lib.hid (G9.out.then hBW)
                have B10 := Lib.hid (B9.out.trans (hBW.mono B9.out.size))
                have Y1X := Lib.hid ((hBW.cell (p := ⟨yb, 1, none⟩) (World.block_lt_of_cell? W9 _ Y1.out)).trans Y1.out)
                have Y2X := Lib.hid ((hBW.cell (p := ⟨yb, 2, none⟩) (World.block_lt_of_cell? W9 _ Y2.out)).trans Y2.out)
                have Y3X := Lib.hid ((hBW.cell (p := ⟨yb, 3, none⟩) (World.block_lt_of_cell? W9 _ Y3.out)).trans Y3.out)
                generalize vs 0 = r0
                generalize vs 1 = r1
                generalize vs 2 = r2
                generalize vs 3 = r3
                generalize vs 4 = r4
                generalize vs 5 = r5
                generalize vs 6 = r6
                generalize vs 7 = r7
                generalize vs 8 = r8
                generalize vs 9 = r9
                generalize vs 10 = r10
                generalize vs 11 = r11
                generalize vs 12 = r12
                generalize vs 13 = r13
                generalize vs 14 = r14
                generalize vs 15 = r15
                generalize vs 16 = r16
                generalize vs 17 = r17
                clear hall hBW e18 Y0 Y1 Y2 Y3 X0 BC BI G9 B9 R0 R1 R2
                have BE := Lib.hid (show St.bestStep (nmP L) (cmpI2 L) k (some j) m = some m by unfold St.bestStep; rw [NT.out]; simp [HD7.out, HDE.out])
                have GL := G10.out.then ((Below.refl _ W10).alloc (Nat.le_refl _) (.cells #[.int .i64 q9.epoch, .string q9.ver, .string q9.rel] 23))
                obtain ⟨bv2, bc2, _, _⟩ := GL.bc
                have bf2 := GL.bf
                clear GL
                have GN := Lib.hid (G10.out.better HML.out HA9.out 23)
                have y1 := Y1X.out
                have y2 := Y2X.out
                have y3 := Y3X.out
                gi_wp2_with fail
                have B11 := B10.out.alloc B10.out.size (.cells #[.int .i64 q9.epoch, .string q9.ver, .string q9.rel] 23)
                have KO1 := Lib.hid ((KeepsOthers.of_grownBy (grown_below B11) (fun _ _ h => by cases h)).trans (KeepsOthers.setCell _ ⟨kb, 0, none⟩ (.slice (some ⟨W10.heap.size, 0, none⟩) 1 1)))
                have KX1 := Lib.hid ((KX.of (X := fun b => b = kb ∨ b = kb + 1) B11).trans (KX.set _ (Or.inl rfl) 0 (.slice (some ⟨W10.heap.size, 0, none⟩) 1 1)))
                clear bc2 bf2 y1 y2 y3 Y1X Y2X Y3X B11 B10 G10
                generalize (W10.alloc (.cells #[.int .i64 q9.epoch, .string q9.ver, .string q9.rel] 23)).setCell ⟨kb, 0, none⟩ (.slice (some ⟨W10.heap.size, 0, none⟩) 1 1) = W11 at *
                cases ov
                · obtain ⟨ob, hob⟩ : ∃ ob, obsP L (k : Int) (m : Int) = ob := ⟨_, rfl⟩
                  have HOB := Lib.hid hob
                  clear hob
                  refine wpIn_region_tail (PP := co9F cb P k m ob) 10 rfl (by kernel_rfl) (by kernel_rfl) (by decide) (by decide) (co9F_mono cb P k m ob) (fun _ => undef) (by simp [fillV, put_someT, setIfInBounds_toArray, set_cons_zero, set_cons_succ]) ?_ ?_
                  · intro i o vs W hi ho he hBW K hK
                    simp only [take_succ_cons, take_zero, fillV, put_someT, setIfInBounds_toArray, set_cons_zero, set_cons_succ] at hK ⊢
                    have GW := Lib.hid (GN.out.then hBW)
                    have C2W := Lib.hid GW.out.c2
                    have K3W := Lib.hid GW.out.k3
                    have C0W := Lib.hid (HC.out.then GW.out.old).c0
                    have OCW := Lib.hid GW.out.oc
                    obtain rfl | rfl | rfl | rfl | rfl | rfl | rfl | rfl | rfl | rfl := (show i = 0 ∨ i = 1 ∨ i = 2 ∨ i = 3 ∨ i = 4 ∨ i = 5 ∨ i = 6 ∨ i = 7 ∨ i = 8 ∨ i = 9 by exact (by have : i < 10 := hi; omega))
                    · simp only [getElem?_toArray, getElem?_cons_zero, getElem?_cons_succ, Option.some.injEq] at ho
                      subst ho
                      rw [if_pos (by rfl)]
                      simp only [put_someT, setIfInBounds_toArray, set_cons_zero, set_cons_succ] at hK
                      have HK := Lib.hid hK
                      clear hK he hi hBW
                      have ccOCW := OCW.out
                      gi_step
                      exact HK.out _ _ rfl (Below.refl _ _)
                    · simp only [getElem?_toArray, getElem?_cons_zero, getElem?_cons_succ, Option.some.injEq] at ho
                      subst ho
                      have e0 : vs 0 = .bool false := (he ⟨0, .data⟩ (by simp) rfl : co9F cb P k m ob 0 (vs 0) W)
                      rw [e0] at hK ⊢
                      rw [if_pos (by rfl)]
                      simp only [put_someT, setIfInBounds_toArray, set_cons_zero, set_cons_succ] at hK
                      have HK := Lib.hid hK
                      clear hK he hi hBW
                      gi_step
                      exact HK.out _ _ rfl (Below.refl _ _)
                    · simp only [getElem?_toArray, getElem?_cons_zero, getElem?_cons_succ, Option.some.injEq] at ho
                      subst ho
                      have e1 : vs 1 = .bool false := (he ⟨1, .guard⟩ (by simp) rfl : co9F cb P k m ob 1 (vs 1) W)
                      rw [e1] at hK ⊢
                      rw [if_pos (by rfl)]
                      simp only [put_someT, setIfInBounds_toArray, set_cons_zero, set_cons_succ] at hK
                      have HK := Lib.hid hK
                      clear hK he hi hBW
                      have ccC2W := C2W.out
                      gi_step
                      exact HK.out _ _ rfl (Below.refl _ _)
                    · simp only [getElem?_toArray, getElem?_cons_zero, getElem?_cons_succ, Option.some.injEq] at ho
                      subst ho
                      have e2 : vs 2 = .pointer (some ⟨cb, 0, none⟩) := (he ⟨2, .data⟩ (by simp) rfl : co9F cb P k m ob 2 (vs 2) W)
                      rw [e2] at hK ⊢
                      have e1 : vs 1 = .bool false := (he ⟨1, .guard⟩ (by simp) rfl : co9F cb P k m ob 1 (vs 1) W)
                      rw [e1] at hK ⊢
                      rw [if_pos (by rfl)]
                      simp only [put_someT, setIfInBounds_toArray, set_cons_zero, set_cons_succ] at hK
                      have HK := Lib.hid hK
                      clear hK he hi hBW
                      gi_step
                      exact HK.out _ _ rfl (Below.refl _ _)
                    · simp only [getElem?_toArray, getElem?_cons_zero, getElem?_cons_succ, Option.some.injEq] at ho
                      subst ho
                      have e3 : vs 3 = .pointer (some ⟨cb, 0, none⟩) := (he ⟨3, .data⟩ (by simp) rfl : co9F cb P k m ob 3 (vs 3) W)
                      rw [e3] at hK ⊢
                      have e1 : vs 1 = .bool false := (he ⟨1, .guard⟩ (by simp) rfl : co9F cb P k m ob 1 (vs 1) W)
                      rw [e1] at hK ⊢
                      rw [if_pos (by rfl)]
                      simp only [put_someT, setIfInBounds_toArray, set_cons_zero, set_cons_succ] at hK
                      have HK := Lib.hid hK
                      clear hK he hi hBW
                      gi_step
                      exact HK.out _ _ rfl (Below.refl _ _)
                    · simp only [getElem?_toArray, getElem?_cons_zero, getElem?_cons_succ, Option.some.injEq] at ho
                      subst ho
                      have e4 : vs 4 = .pointer (some ⟨cb, 0, none⟩) := (he ⟨4, .data⟩ (by simp) rfl : co9F cb P k m ob 4 (vs 4) W)
                      rw [e4] at hK ⊢
                      have e1 : vs 1 = .bool false := (he ⟨1, .guard⟩ (by simp) rfl : co9F cb P k m ob 1 (vs 1) W)
                      rw [e1] at hK ⊢
                      rw [if_pos (by rfl)]
                      simp only [put_someT, setIfInBounds_toArray, set_cons_zero, set_cons_succ] at hK
                      have HK := Lib.hid hK
                      clear hK he hi hBW
                      have ccC0W := C0W.out
                      gi_step
                      exact HK.out _ _ rfl (Below.refl _ _)
                    · simp only [getElem?_toArray, getElem?_cons_zero, getElem?_cons_succ, Option.some.injEq] at ho
                      subst ho
                      have e1 : vs 1 = .bool false := (he ⟨1, .guard⟩ (by simp) rfl : co9F cb P k m ob 1 (vs 1) W)
                      rw [e1] at hK ⊢
                      rw [if_pos (by rfl)]
                      simp only [put_someT, setIfInBounds_toArray, set_cons_zero, set_cons_succ] at hK
                      have HK := Lib.hid hK
                      clear hK he hi hBW
                      have ccK3W := K3W.out
                      gi_step
                      exact HK.out _ _ rfl (Below.refl _ _)
                    · simp only [getElem?_toArray, getElem?_cons_zero, getElem?_cons_succ, Option.some.injEq] at ho
                      subst ho
                      have e1 : vs 1 = .bool false := (he ⟨1, .guard⟩ (by simp) rfl : co9F cb P k m ob 1 (vs 1) W)
                      rw [e1] at hK ⊢
                      rw [if_pos (by rfl)]
                      simp only [put_someT, setIfInBounds_toArray, set_cons_zero, set_cons_succ] at hK
                      have HK := Lib.hid hK
                      clear hK he hi hBW
                      gi_step
                      exact HK.out _ _ rfl (Below.refl _ _)
                    · simp only [getElem?_toArray, getElem?_cons_zero, getElem?_cons_succ, Option.some.injEq] at ho
                      subst ho
                      have e5 : vs 5 = .pointer (some ⟨P, 0, none⟩) := (he ⟨5, .data⟩ (by simp) rfl : co9F cb P k m ob 5 (vs 5) W)
                      rw [e5] at hK ⊢
                      have e6 : vs 6 = .int .i64 (k : Int) := (he ⟨6, .data⟩ (by simp) rfl : co9F cb P k m ob 6 (vs 6) W)
                      rw [e6] at hK ⊢
                      have e7 : vs 7 = .int .i64 (m : Int) := (he ⟨7, .data⟩ (by simp) rfl : co9F cb P k m ob 7 (vs 7) W)
                      rw [e7] at hK ⊢
                      have e1 : vs 1 = .bool false := (he ⟨1, .guard⟩ (by simp) rfl : co9F cb P k m ob 1 (vs 1) W)
                      rw [e1] at hK ⊢
                      rw [if_pos (by rfl)]
                      simp only [put_someT, setIfInBounds_toArray, set_cons_zero, set_cons_succ] at hK
                      have HK := Lib.hid hK
                      clear hK he hi hBW
                      have POW := PO.out _ GW.out.old
                      rw [HOB.out] at POW
                      gi_step
                      refine ⟨trivial, ?_⟩
                      gi_at_call 133
                      refine (CallsIn.inRound l (callsIn_wide.2 POW)).mono ?_
                      rintro en w9 ⟨rfl, h⟩
                      exact HK.out _ _ rfl h
                    · simp only [getElem?_toArray, getElem?_cons_zero, getElem?_cons_succ, Option.some.injEq] at ho
                      subst ho
                      have e1 : vs 1 = .bool false := (he ⟨1, .data⟩ (by simp) rfl : co9F cb P k m ob 1 (vs 1) W)
                      rw [e1] at hK ⊢
                      have e8 : vs 8 = .bool ob := (he ⟨8, .data⟩ (by simp) rfl : co9F cb P k m ob 8 (vs 8) W)
                      rw [e8] at hK ⊢
                      rw [if_pos (by rfl)]
                      simp only [put_someT, setIfInBounds_toArray, set_cons_zero, set_cons_succ] at hK
                      have HK := Lib.hid hK
                      clear hK he hi hBW
                      gi_step
                      exact HK.out _ _ rfl (Below.refl _ _)
                  · intro vs W12 hall hBW
                    have e9 : vs 9 = .bool ob := (hall 9 (by decide) : co9F cb P k m ob 9 (vs 9) W12)
                    simp only [take_succ_cons, take_zero, List.drop_succ_cons, List.drop_zero, fillV, put_someT, put_noneC, setIfInBounds_toArray, set_cons_zero, set_cons_succ]
                    rw [e9]
                    have G12 := Lib.hid (GN.out.then hBW)
                    have KO2 := Lib.hid (KO1.out.trans (KeepsOthers.of_grownBy (grown_below hBW) (fun _ _ h => by cases h)))
                    have KX2 := Lib.hid (KX1.out.trans (KX.of hBW))
                    generalize vs 0 = s0
                    generalize vs 1 = s1
                    generalize vs 2 = s2
                    generalize vs 3 = s3
                    generalize vs 4 = s4
                    generalize vs 5 = s5
                    generalize vs 6 = s6
                    generalize vs 7 = s7
                    generalize vs 8 = s8
                    clear hall hBW e9 KO1 KX1 GN
                    have oc := G12.out.oc
                    have of := G12.out.of
                    gi_wp2_with fail
                    have OE := Lib.hid (show (false || obsP L (k : Int) (m : Int)) = ob by rw [HOB.out]; rfl)
                    exact ⟨(KO2.out.trans (KeepsOthers.setCell _ _ _)).from _, KX2.out.trans (KX.set _ (Or.inr rfl) _ _), by unfold CoI; rw [BS.out, BE.out, OS.out, OE.out]; exact G12.out.setO ob⟩
                · obtain ⟨ob, hob⟩ : ∃ ob, obsP L (k : Int) (m : Int) = ob := ⟨_, rfl⟩
                  have HOB := Lib.hid hob
                  clear hob
                  refine wpIn_region_tail (PP := co9T cb P k m ob) 10 rfl (by kernel_rfl) (by kernel_rfl) (by decide) (by decide) (co9T_mono cb P k m ob) (fun _ => undef) (by simp [fillV, put_someT, setIfInBounds_toArray, set_cons_zero, set_cons_succ]) ?_ ?_
                  · intro i o vs W hi ho he hBW K hK
                    simp only [take_succ_cons, take_zero, fillV, put_someT, setIfInBounds_toArray, set_cons_zero, set_cons_succ] at hK ⊢
                    have GW := Lib.hid (GN.out.then hBW)
                    have C2W := Lib.hid GW.out.c2
                    have K3W := Lib.hid GW.out.k3
                    have C0W := Lib.hid (HC.out.then GW.out.old).c0
                    have OCW := Lib.hid GW.out.oc
                    obtain rfl | rfl | rfl | rfl | rfl | rfl | rfl | rfl | rfl | rfl := (show i = 0 ∨ i = 1 ∨ i = 2 ∨ i = 3 ∨ i = 4 ∨ i = 5 ∨ i = 6 ∨ i = 7 ∨ i = 8 ∨ i = 9 by exact (by have : i < 10 := hi; omega))
                    · simp only [getElem?_toArray, getElem?_cons_zero, getElem?_cons_succ, Option.some.injEq] at ho
                      subst ho
                      rw [if_pos (by rfl)]
                      simp only [put_someT, setIfInBounds_toArray, set_cons_zero, set_cons_succ] at hK
                      have HK := Lib.hid hK
                      clear hK he hi hBW
                      have ccOCW := OCW.out
                      gi_step
                      exact HK.out _ _ rfl (Below.refl _ _)
                    · simp only [getElem?_toArray, getElem?_cons_zero, getElem?_cons_succ, Option.some.injEq] at ho
                      subst ho
                      have e0 : vs 0 = .bool true := (he ⟨0, .data⟩ (by simp) rfl : co9T cb P k m ob 0 (vs 0) W)
                      rw [e0] at hK ⊢
                      rw [if_pos (by rfl)]
                      simp only [put_someT, setIfInBounds_toArray, set_cons_zero, set_cons_succ] at hK
                      have HK := Lib.hid hK
                      clear hK he hi hBW
                      gi_step
                      exact HK.out _ _ rfl (Below.refl _ _)
                    · simp only [getElem?_toArray, getElem?_cons_zero, getElem?_cons_succ, Option.some.injEq] at ho
                      subst ho
                      have e1 : vs 1 = .bool true := (he ⟨1, .guard⟩ (by simp) rfl : co9T cb P k m ob 1 (vs 1) W)
                      rw [e1] at hK ⊢
                      rw [if_neg (by exact Bool.false_ne_true)]
                      refine ⟨fun _ _ => trivial, ?_⟩
                      exact hK _ _ rfl (Below.refl _ _)
                    · simp only [getElem?_toArray, getElem?_cons_zero, getElem?_cons_succ, Option.some.injEq] at ho
                      subst ho
                      have e2 : vs 2 = undef := (he ⟨2, .data⟩ (by simp) rfl : co9T cb P k m ob 2 (vs 2) W)
                      rw [e2] at hK ⊢
                      have e1 : vs 1 = .bool true := (he ⟨1, .guard⟩ (by simp) rfl : co9T cb P k m ob 1 (vs 1) W)
                      rw [e1] at hK ⊢
                      rw [if_neg (by exact Bool.false_ne_true)]
                      refine ⟨fun _ _ => trivial, ?_⟩
                      exact hK _ _ rfl (Below.refl _ _)
                    · simp only [getElem?_toArray, getElem?_cons_zero, getElem?_cons_succ, Option.some.injEq] at ho
                      subst ho
                      have e3 : vs 3 = undef := (he ⟨3, .data⟩ (by simp) rfl : co9T cb P k m ob 3 (vs 3) W)
                      rw [e3] at hK ⊢
                      have e1 : vs 1 = .bool true := (he ⟨1, .guard⟩ (by simp) rfl : co9T cb P k m ob 1 (vs 1) W)
                      rw [e1] at hK ⊢
                      rw [if_neg (by exact Bool.false_ne_true)]
                      refine ⟨fun _ _ => trivial, ?_⟩
                      exact hK _ _ rfl (Below.refl _ _)
                    · simp only [getElem?_toArray, getElem?_cons_zero, getElem?_cons_succ, Option.some.injEq] at ho
                      subst ho
                      have e4 : vs 4 = undef := (he ⟨4, .data⟩ (by simp) rfl : co9T cb P k m ob 4 (vs 4) W)
                      rw [e4] at hK ⊢
                      have e1 : vs 1 = .bool true := (he ⟨1, .guard⟩ (by simp) rfl : co9T cb P k m ob 1 (vs 1) W)
                      rw [e1] at hK ⊢
                      rw [if_neg (by exact Bool.false_ne_true)]
                      refine ⟨fun _ _ => trivial, ?_⟩
                      exact hK _ _ rfl (Below.refl _ _)
                    · simp only [getElem?_toArray, getElem?_cons_zero, getElem?_cons_succ, Option.some.injEq] at ho
                      subst ho
                      have e1 : vs 1 = .bool true := (he ⟨1, .guard⟩ (by simp) rfl : co9T cb P k m ob 1 (vs 1) W)
                      rw [e1] at hK ⊢
                      rw [if_neg (by exact Bool.false_ne_true)]
                      refine ⟨fun _ _ => trivial, ?_⟩
                      exact hK _ _ rfl (Below.refl _ _)
                    · simp only [getElem?_toArray, getElem?_cons_zero, getElem?_cons_succ, Option.some.injEq] at ho
                      subst ho
                      have e1 : vs 1 = .bool true := (he ⟨1, .guard⟩ (by simp) rfl : co9T cb P k m ob 1 (vs 1) W)
                      rw [e1] at hK ⊢
                      rw [if_neg (by exact Bool.false_ne_true)]
                      refine ⟨fun _ _ => trivial, ?_⟩
                      exact hK _ _ rfl (Below.refl _ _)
                    · simp only [getElem?_toArray, getElem?_cons_zero, getElem?_cons_succ, Option.some.injEq] at ho
                      subst ho
                      have e5 : vs 5 = undef := (he ⟨5, .data⟩ (by simp) rfl : co9T cb P k m ob 5 (vs 5) W)
                      rw [e5] at hK ⊢
                      have e6 : vs 6 = undef := (he ⟨6, .data⟩ (by simp) rfl : co9T cb P k m ob 6 (vs 6) W)
                      rw [e6] at hK ⊢
                      have e7 : vs 7 = undef := (he ⟨7, .data⟩ (by simp) rfl : co9T cb P k m ob 7 (vs 7) W)
                      rw [e7] at hK ⊢
                      have e1 : vs 1 = .bool true := (he ⟨1, .guard⟩ (by simp) rfl : co9T cb P k m ob 1 (vs 1) W)
                      rw [e1] at hK ⊢
                      rw [if_neg (by exact Bool.false_ne_true)]
                      refine ⟨fun _ _ => trivial, ?_⟩
                      exact hK _ _ rfl (Below.refl _ _)
                    · simp only [getElem?_toArray, getElem?_cons_zero, getElem?_cons_succ, Option.some.injEq] at ho
                      subst ho
                      have e1 : vs 1 = .bool true := (he ⟨1, .data⟩ (by simp) rfl : co9T cb P k m ob 1 (vs 1) W)
                      rw [e1] at hK ⊢
                      have e8 : vs 8 = undef := (he ⟨8, .data⟩ (by simp) rfl : co9T cb P k m ob 8 (vs 8) W)
                      rw [e8] at hK ⊢
                      rw [if_pos (by rfl)]
                      simp only [put_someT, setIfInBounds_toArray, set_cons_zero, set_cons_succ] at hK
                      have HK := Lib.hid hK
                      clear hK he hi hBW
                      gi_step
                      exact HK.out _ _ rfl (Below.refl _ _)
                  · intro vs W12 hall hBW
                    have e9 : vs 9 = .bool true := (hall 9 (by decide) : co9T cb P k m ob 9 (vs 9) W12)
                    simp only [take_succ_cons, take_zero, List.drop_succ_cons, List.drop_zero, fillV, put_someT, put_noneC, setIfInBounds_toArray, set_cons_zero, set_cons_succ]
                    rw [e9]
                    have G12 := Lib.hid (GN.out.then hBW)
                    have KO2 := Lib.hid (KO1.out.trans (KeepsOthers.of_grownBy (grown_below hBW) (fun _ _ h => by cases h)))
                    have KX2 := Lib.hid (KX1.out.trans (KX.of hBW))
                    generalize vs 0 = s0
                    generalize vs 1 = s1
                    generalize vs 2 = s2
                    generalize vs 3 = s3
                    generalize vs 4 = s4
                    generalize vs 5 = s5
                    generalize vs 6 = s6
                    generalize vs 7 = s7
                    generalize vs 8 = s8
                    clear hall hBW e9 KO1 KX1 GN
                    have oc := G12.out.oc
                    have of := G12.out.of
                    gi_wp2_with fail
                    have OE := Lib.hid (show (true || obsP L (k : Int) (m : Int)) = true by rw [HOB.out]; rfl)
                    exact ⟨(KO2.out.trans (KeepsOthers.setCell _ _ _)).from _, KX2.out.trans (KX.set _ (Or.inr rfl) _ _), by unfold CoI; rw [BS.out, BE.out, OS.out, OE.out]; exact G12.out.setO true⟩
            · have HD7 := Lib.hid hd7
              clear hd7
              refine wpIn_region_tail (PP := co7D yb g q9 q h r d) 19 rfl (by kernel_rfl) (by kernel_rfl) (by decide) (by decide) (co7D_mono yb g q9 q h r d) (fun _ => undef) (by simp [fillV, put_someT, setIfInBounds_toArray, set_cons_zero, set_cons_succ]) ?_ ?_
              · intro i o vs W hi ho he hBW K hK
                simp only [take_succ_cons, take_zero, fillV, put_someT, setIfInBounds_toArray, set_cons_zero, set_cons_succ] at hK ⊢
                have X0W := Lib.hid ((hBW.cell (p := ⟨g, 0, none⟩) (World.block_lt_of_cell? W9 _ X0.out)).trans X0.out)
                have Y0W := Lib.hid ((hBW.cell (p := ⟨yb, 0, none⟩) (World.block_lt_of_cell? W9 _ Y0.out)).trans Y0.out)
                have Y1W := Lib.hid ((hBW.cell (p := ⟨yb, 1, none⟩) (World.block_lt_of_cell? W9 _ Y1.out)).trans Y1.out)
                have Y2W := Lib.hid ((hBW.cell (p := ⟨yb, 2, none⟩) (World.block_lt_of_cell? W9 _ Y2.out)).trans Y2.out)
                have Y3W := Lib.hid ((hBW.cell (p := ⟨yb, 3, none⟩) (World.block_lt_of_cell? W9 _ Y3.out)).trans Y3.out)
                have BCW := Lib.hid ((hBW.cell (p := ⟨kb, 0, none⟩) (World.block_lt_of_cell? W9 _ BC.out)).trans BC.out)
                have R0W := Lib.hid ((hBW.cell (p := ⟨h, 0, none⟩) (World.block_lt_of_cell? W9 _ R0.out)).trans R0.out)
                have R1W := Lib.hid ((hBW.cell (p := ⟨h, 1, none⟩) (World.block_lt_of_cell? W9 _ R1.out)).trans R1.out)
                have R2W := Lib.hid ((hBW.cell (p := ⟨h, 2, none⟩) (World.block_lt_of_cell? W9 _ R2.out)).trans R2.out)
                obtain rfl | rfl | rfl | rfl | rfl | rfl | rfl | rfl | rfl | rfl | rfl | rfl | rfl | rfl | rfl | rfl | rfl | rfl | rfl := (show i = 0 ∨ i = 1 ∨ i = 2 ∨ i = 3 ∨ i = 4 ∨ i = 5 ∨ i = 6 ∨ i = 7 ∨ i = 8 ∨ i = 9 ∨ i = 10 ∨ i = 11 ∨ i = 12 ∨ i = 13 ∨ i = 14 ∨ i = 15 ∨ i = 16 ∨ i = 17 ∨ i = 18 by exact (by have : i < 19 := hi; omega))
                · simp only [getElem?_toArray, getElem?_cons_zero, getElem?_cons_succ, Option.some.injEq] at ho
                  subst ho
                  rw [if_pos (by rfl)]
                  simp only [put_someT, setIfInBounds_toArray, set_cons_zero, set_cons_succ] at hK
                  have HK := Lib.hid hK
                  clear hK he hi hBW
                  gi_step
                  exact HK.out _ _ rfl (Below.refl _ _)
                · simp only [getElem?_toArray, getElem?_cons_zero, getElem?_cons_succ, Option.some.injEq] at ho
                  subst ho
                  have e0 : vs 0 = .pointer (some ⟨yb, 0, none⟩) := (he ⟨0, .data⟩ (by simp) rfl : co7D yb g q9 q h r d 0 (vs 0) W)
                  rw [e0] at hK ⊢
                  rw [if_pos (by rfl)]
                  simp only [put_someT, setIfInBounds_toArray, set_cons_zero, set_cons_succ] at hK
                  have HK := Lib.hid hK
                  clear hK he hi hBW
                  have ccY0W := Y0W.out
                  gi_step
                  exact HK.out _ _ rfl (Below.refl _ _)
                · simp only [getElem?_toArray, getElem?_cons_zero, getElem?_cons_succ, Option.some.injEq] at ho
                  subst ho
                  rw [if_pos (by rfl)]
                  simp only [put_someT, setIfInBounds_toArray, set_cons_zero, set_cons_succ] at hK
                  have HK := Lib.hid hK
                  clear hK he hi hBW
                  gi_step
                  exact HK.out _ _ rfl (Below.refl _ _)
                · simp only [getElem?_toArray, getElem?_cons_zero, getElem?_cons_succ, Option.some.injEq] at ho
                  subst ho
                  have e2 : vs 2 = .pointer (some ⟨g, 0, none⟩) := (he ⟨2, .data⟩ (by simp) rfl : co7D yb g q9 q h r d 2 (vs 2) W)
                  rw [e2] at hK ⊢
                  rw [if_pos (by rfl)]
                  simp only [put_someT, setIfInBounds_toArray, set_cons_zero, set_cons_succ] at hK
                  have HK := Lib.hid hK
                  clear hK he hi hBW
                  have ccX0W := X0W.out
                  gi_step
                  exact HK.out _ _ rfl (Below.refl _ _)
                · simp only [getElem?_toArray, getElem?_cons_zero, getElem?_cons_succ, Option.some.injEq] at ho
                  subst ho
                  have e1 : vs 1 = .string q9.name := (he ⟨1, .data⟩ (by simp) rfl : co7D yb g q9 q h r d 1 (vs 1) W)
                  rw [e1] at hK ⊢
                  have e3 : vs 3 = .string q.name := (he ⟨3, .data⟩ (by simp) rfl : co7D yb g q9 q h r d 3 (vs 3) W)
                  rw [e3] at hK ⊢
                  rw [if_pos (by rfl)]
                  simp only [put_someT, setIfInBounds_toArray, set_cons_zero, set_cons_succ] at hK
                  have HK := Lib.hid hK
                  clear hK he hi hBW
                  have eq2 := HEQ.out
                  gi_step
                  exact HK.out _ _ (by simp [co7D, eq2]) (Below.refl _ _)
                · simp only [getElem?_toArray, getElem?_cons_zero, getElem?_cons_succ, Option.some.injEq] at ho
                  subst ho
                  have e4 : vs 4 = .bool true := (he ⟨4, .data⟩ (by simp) rfl : co7D yb g q9 q h r d 4 (vs 4) W)
                  rw [e4] at hK ⊢
                  rw [if_pos (by rfl)]
                  simp only [put_someT, setIfInBounds_toArray, set_cons_zero, set_cons_succ] at hK
                  have HK := Lib.hid hK
                  clear hK he hi hBW
                  gi_step
                  exact HK.out _ _ rfl (Below.refl _ _)
                · simp only [getElem?_toArray, getElem?_cons_zero, getElem?_cons_succ, Option.some.injEq] at ho
                  subst ho
                  have e5 : vs 5 = .bool true := (he ⟨5, .guard⟩ (by simp) rfl : co7D yb g q9 q h r d 5 (vs 5) W)
                  rw [e5] at hK ⊢
                  rw [if_pos (by rfl)]
                  simp only [put_someT, setIfInBounds_toArray, set_cons_zero, set_cons_succ] at hK
                  have HK := Lib.hid hK
                  clear hK he hi hBW
                  have ccBCW := BCW.out
                  gi_step
                  exact HK.out _ _ rfl (Below.refl _ _)
                · simp only [getElem?_toArray, getElem?_cons_zero, getElem?_cons_succ, Option.some.injEq] at ho
                  subst ho
                  have e6 : vs 6 = .slice (some ⟨h, 0, none⟩) 1 1 := (he ⟨6, .data⟩ (by simp) rfl : co7D yb g q9 q h r d 6 (vs 6) W)
                  rw [e6] at hK ⊢
                  have e5 : vs 5 = .bool true := (he ⟨5, .guard⟩ (by simp) rfl : co7D yb g q9 q h r d 5 (vs 5) W)
                  rw [e5] at hK ⊢
                  rw [if_pos (by rfl)]
                  simp only [put_someT, setIfInBounds_toArray, set_cons_zero, set_cons_succ] at hK
                  have HK := Lib.hid hK
                  clear hK he hi hBW
                  gi_step
                  exact HK.out _ _ rfl (Below.refl _ _)
                · simp only [getElem?_toArray, getElem?_cons_zero, getElem?_cons_succ, Option.some.injEq] at ho
                  subst ho
                  have e7 : vs 7 = .int .i64 1 := (he ⟨7, .data⟩ (by simp) rfl : co7D yb g q9 q h r d 7 (vs 7) W)
                  rw [e7] at hK ⊢
                  have e5 : vs 5 = .bool true := (he ⟨5, .guard⟩ (by simp) rfl : co7D yb g q9 q h r d 5 (vs 5) W)
                  rw [e5] at hK ⊢
                  rw [if_pos (by rfl)]
                  simp only [put_someT, setIfInBounds_toArray, set_cons_zero, set_cons_succ] at hK
                  have HK := Lib.hid hK
                  clear hK he hi hBW
                  gi_step
                  exact HK.out _ _ rfl (Below.refl _ _)
                · simp only [getElem?_toArray, getElem?_cons_zero, getElem?_cons_succ, Option.some.injEq] at ho
                  subst ho
                  have e8 : vs 8 = .bool false := (he ⟨8, .data⟩ (by simp) rfl : co7D yb g q9 q h r d 8 (vs 8) W)
                  rw [e8] at hK ⊢
                  have e5 : vs 5 = .bool true := (he ⟨5, .guard⟩ (by simp) rfl : co7D yb g q9 q h r d 5 (vs 5) W)
                  rw [e5] at hK ⊢
                  rw [if_pos (by rfl)]
                  simp only [put_someT, setIfInBounds_toArray, set_cons_zero, set_cons_succ] at hK
                  have HK := Lib.hid hK
                  clear hK he hi hBW
                  gi_step
                  exact HK.out _ _ rfl (Below.refl _ _)
                · simp only [getElem?_toArray, getElem?_cons_zero, getElem?_cons_succ, Option.some.injEq] at ho
                  subst ho
                  have e9 : vs 9 = .bool false := (he ⟨9, .guard⟩ (by simp) rfl : co7D yb g q9 q h r d 9 (vs 9) W)
                  rw [e9] at hK ⊢
                  rw [if_pos (by rfl)]
                  simp only [put_someT, setIfInBounds_toArray, set_cons_zero, set_cons_succ] at hK
                  have HK := Lib.hid hK
                  clear hK he hi hBW
                  gi_step
                  exact HK.out _ _ rfl (Below.refl _ _)
                · simp only [getElem?_toArray, getElem?_cons_zero, getElem?_cons_succ, Option.some.injEq] at ho
                  subst ho
                  have e10 : vs 10 = .pointer (some ⟨yb, 1, none⟩) := (he ⟨10, .data⟩ (by simp) rfl : co7D yb g q9 q h r d 10 (vs 10) W)
                  rw [e10] at hK ⊢
                  have e9 : vs 9 = .bool false := (he ⟨9, .guard⟩ (by simp) rfl : co7D yb g q9 q h r d 9 (vs 9) W)
                  rw [e9] at hK ⊢
                  rw [if_pos (by rfl)]
                  simp only [put_someT, setIfInBounds_toArray, set_cons_zero, set_cons_succ] at hK
                  have HK := Lib.hid hK
                  clear hK he hi hBW
                  have ccY1W := Y1W.out
                  have ccY2W := Y2W.out
                  have ccY3W := Y3W.out
                  gi_step
                  exact HK.out _ _ rfl (Below.refl _ _)
                · simp only [getElem?_toArray, getElem?_cons_zero, getElem?_cons_succ, Option.some.injEq] at ho
                  subst ho
                  have e9 : vs 9 = .bool false := (he ⟨9, .guard⟩ (by simp) rfl : co7D yb g q9 q h r d 9 (vs 9) W)
                  rw [e9] at hK ⊢
                  rw [if_pos (by rfl)]
                  simp only [put_someT, setIfInBounds_toArray, set_cons_zero, set_cons_succ] at hK
                  have HK := Lib.hid hK
                  clear hK he hi hBW
                  have ccBCW := BCW.out
                  gi_step
                  exact HK.out _ _ rfl (Below.refl _ _)
                · simp only [getElem?_toArray, getElem?_cons_zero, getElem?_cons_succ, Option.some.injEq] at ho
                  subst ho
                  have e12 : vs 12 = .slice (some ⟨h, 0, none⟩) 1 1 := (he ⟨12, .data⟩ (by simp) rfl : co7D yb g q9 q h r d 12 (vs 12) W)
                  rw [e12] at hK ⊢
                  have e9 : vs 9 = .bool false := (he ⟨9, .guard⟩ (by simp) rfl : co7D yb g q9 q h r d 9 (vs 9) W)
                  rw [e9] at hK ⊢
                  rw [if_pos (by rfl)]
                  simp only [put_someT, setIfInBounds_toArray, set_cons_zero, set_cons_succ] at hK
                  have HK := Lib.hid hK
                  clear hK he hi hBW
                  gi_step
                  exact HK.out _ _ rfl (Below.refl _ _)
                · simp only [getElem?_toArray, getElem?_cons_zero, getElem?_cons_succ, Option.some.injEq] at ho
                  subst ho
                  have e13 : vs 13 = .pointer (some ⟨h, 0, none⟩) := (he ⟨13, .data⟩ (by simp) rfl : co7D yb g q9 q h r d 13 (vs 13) W)
                  rw [e13] at hK ⊢
                  have e9 : vs 9 = .bool false := (he ⟨9, .guard⟩ (by simp) rfl : co7D yb g q9 q h r d 9 (vs 9) W)
                  rw [e9] at hK ⊢
                  rw [if_pos (by rfl)]
                  simp only [put_someT, setIfInBounds_toArray, set_cons_zero, set_cons_succ] at hK
                  have HK := Lib.hid hK
                  clear hK he hi hBW
                  have ccR0W := R0W.out
                  have ccR1W := R1W.out
                  have ccR2W := R2W.out
                  gi_step
                  exact HK.out _ _ rfl (Below.refl _ _)
                · simp only [getElem?_toArray, getElem?_cons_zero, getElem?_cons_succ, Option.some.injEq] at ho
                  subst ho
                  have e11 : vs 11 = .agg #[.int .i64 q9.epoch, .string q9.ver, .string q9.rel] := (he ⟨11, .data⟩ (by simp) rfl : co7D yb g q9 q h r d 11 (vs 11) W)
                  rw [e11] at hK ⊢
                  have e14 : vs 14 = .agg #[.int .i64 r.epoch, .string r.ver, .string r.rel] := (he ⟨14, .data⟩ (by simp) rfl : co7D yb g q9 q h r d 14 (vs 14) W)
                  rw [e14] at hK ⊢
                  have e9 : vs 9 = .bool false := (he ⟨9, .guard⟩ (by simp) rfl : co7D yb g q9 q h r d 9 (vs 9) W)
                  rw [e9] at hK ⊢
                  rw [if_pos (by rfl)]
                  simp only [put_someT, setIfInBounds_toArray, set_cons_zero, set_cons_succ] at hK
                  have HK := Lib.hid hK
                  clear hK he hi hBW
                  have CMW := CMR.out W
                  gi_step
                  refine ⟨trivial, ?_⟩
                  gi_at_call 132
                  refine (CallsIn.inRound l (callsIn_wide.2 CMW)).mono ?_
                  rintro en w9 ⟨rfl, h⟩
                  exact HK.out _ _ rfl h
                · simp only [getElem?_toArray, getElem?_cons_zero, getElem?_cons_succ, Option.some.injEq] at ho
                  subst ho
                  have e15 : vs 15 = .int .i64 d := (he ⟨15, .data⟩ (by simp) rfl : co7D yb g q9 q h r d 15 (vs 15) W)
                  rw [e15] at hK ⊢
                  have e9 : vs 9 = .bool false := (he ⟨9, .guard⟩ (by simp) rfl : co7D yb g q9 q h r d 9 (vs 9) W)
                  rw [e9] at hK ⊢
                  rw [if_pos (by rfl)]
                  simp only [put_someT, setIfInBounds_toArray, set_cons_zero, set_cons_succ] at hK
                  have HK := Lib.hid hK
                  clear hK he hi hBW
                  have hd := HD7.out
                  gi_step
                  exact HK.out _ _ (by simp [co7D, hd]) (Below.refl _ _)
                · simp only [getElem?_toArray, getElem?_cons_zero, getElem?_cons_succ, Option.some.injEq] at ho
                  subst ho
                  have e9 : vs 9 = .bool false := (he ⟨9, .data⟩ (by simp) rfl : co7D yb g q9 q h r d 9 (vs 9) W)
                  rw [e9] at hK ⊢
                  have e16 : vs 16 = .bool false := (he ⟨16, .data⟩ (by simp) rfl : co7D yb g q9 q h r d 16 (vs 16) W)
                  rw [e16] at hK ⊢
                  have e5 : vs 5 = .bool true := (he ⟨5, .guard⟩ (by simp) rfl : co7D yb g q9 q h r d 5 (vs 5) W)
                  rw [e5] at hK ⊢
                  rw [if_pos (by rfl)]
                  simp only [put_someT, setIfInBounds_toArray, set_cons_zero, set_cons_succ] at hK
                  have HK := Lib.hid hK
                  clear hK he hi hBW
                  gi_step
                  exact HK.out _ _ rfl (Below.refl _ _)
                · simp only [getElem?_toArray, getElem?_cons_zero, getElem?_cons_succ, Option.some.injEq] at ho
                  subst ho
                  have e5 : vs 5 = .bool true := (he ⟨5, .data⟩ (by simp) rfl : co7D yb g q9 q h r d 5 (vs 5) W)
                  rw [e5] at hK ⊢
                  have e17 : vs 17 = .bool false := (he ⟨17, .data⟩ (by simp) rfl : co7D yb g q9 q h r d 17 (vs 17) W)
                  rw [e17] at hK ⊢
                  rw [if_pos (by rfl)]
                  simp only [put_someT, setIfInBounds_toArray, set_cons_zero, set_cons_succ] at hK
                  have HK := Lib.hid hK
                  clear hK he hi hBW
                  gi_step
                  exact HK.out _ _ rfl (Below.refl _ _)
              · intro vs W10 hall hBW
                have e18 : vs 18 = .bool false := (hall 18 (by decide) : co7D yb g q9 q h r d 18 (vs 18) W10)
                simp only [take_succ_cons, take_zero, List.drop_succ_cons, List.drop_zero, fillV, put_someT, put_noneC, setIfInBounds_toArray, set_cons_zero, set_cons_succ]
                rw [e18]
                have G10 := Lib.hid (G9.out.then hBW)
                have B10 := Lib.hid (B9.out.trans (hBW.mono B9.out.size))
                have Y1X := Lib.hid ((hBW.cell (p := ⟨yb, 1, none⟩) (World.block_lt_of_cell? W9 _ Y1.out)).trans Y1.out)
                have Y2X := Lib.hid ((hBW.cell (p := ⟨yb, 2, none⟩) (World.block_lt_of_cell? W9 _ Y2.out)).trans Y2.out)
                have Y3X := Lib.hid ((hBW.cell (p := ⟨yb, 3, none⟩) (World.block_lt_of_cell? W9 _ Y3.out)).trans Y3.out)
                generalize vs 0 = r0
                generalize vs 1 = r1
                generalize vs 2 = r2
                generalize vs 3 = r3
                generalize vs 4 = r4
                generalize vs 5 = r5
                generalize vs 6 = r6
                generalize vs 7 = r7
                generalize vs 8 = r8
                generalize vs 9 = r9
                generalize vs 10 = r10
                generalize vs 11 = r11
                generalize vs 12 = r12
                generalize vs 13 = r13
                generalize vs 14 = r14
                generalize vs 15 = r15
                generalize vs 16 = r16
                generalize vs 17 = r17
                clear hall hBW e18 Y0 Y1 Y2 Y3 X0 BC BI G9 B9 R0 R1 R2
                have BE := Lib.hid (show St.bestStep (nmP L) (cmpI2 L) k (some j) m = some j by unfold St.bestStep; rw [NT.out]; simp [HDE.out, HD7.out])
                have KO1 := Lib.hid (KeepsOthers.of_grownBy (grown_below B10.out) (fun _ _ h => by cases h))
                have KX1 := Lib.hid (KX.of (X := fun b => b = kb ∨ b = kb + 1) B10.out)
                have GN := G10
                clear G10 B10 Y1X Y2X Y3X
                gi_wp2_with fail
                generalize W10 = W11 at *
                cases ov
                · obtain ⟨ob, hob⟩ : ∃ ob, obsP L (k : Int) (m : Int) = ob := ⟨_, rfl⟩
                  have HOB := Lib.hid hob
                  clear hob
                  refine wpIn_region_tail (PP := co9F cb P k m ob) 10 rfl (by kernel_rfl) (by kernel_rfl) (by decide) (by decide) (co9F_mono cb P k m ob) (fun _ => undef) (by simp [fillV, put_someT, setIfInBounds_toArray, set_cons_zero, set_cons_succ]) ?_ ?_
                  · intro i o vs W hi ho he hBW K hK
                    simp only [take_succ_cons, take_zero, fillV, put_someT, setIfInBounds_toArray, set_cons_zero, set_cons_succ] at hK ⊢
                    have GW := Lib.hid (GN.out.then hBW)
                    have C2W := Lib.hid GW.out.c2
                    have K3W := Lib.hid GW.out.k3
                    have C0W := Lib.hid (HC.out.then GW.out.old).c0
                    have OCW := Lib.hid GW.out.oc
                    obtain rfl | rfl | rfl | rfl | rfl | rfl | rfl | rfl | rfl | rfl := (show i = 0 ∨ i = 1 ∨ i = 2 ∨ i = 3 ∨ i = 4 ∨ i = 5 ∨ i = 6 ∨ i = 7 ∨ i = 8 ∨ i = 9 by exact (by have : i < 10 := hi; omega))
                    · simp only [getElem?_toArray, getElem?_cons_zero, getElem?_cons_succ, Option.some.injEq] at ho
                      subst ho
                      rw [if_pos (by rfl)]
                      simp only [put_someT, setIfInBounds_toArray, set_cons_zero, set_cons_succ] at hK
                      have HK := Lib.hid hK
                      clear hK he hi hBW
                      have ccOCW := OCW.out
                      gi_step
                      exact HK.out _ _ rfl (Below.refl _ _)
                    · simp only [getElem?_toArray, getElem?_cons_zero, getElem?_cons_succ, Option.some.injEq] at ho
                      subst ho
                      have e0 : vs 0 = .bool false := (he ⟨0, .data⟩ (by simp) rfl : co9F cb P k m ob 0 (vs 0) W)
                      rw [e0] at hK ⊢
                      rw [if_pos (by rfl)]
                      simp only [put_someT, setIfInBounds_toArray, set_cons_zero, set_cons_succ] at hK
                      have HK := Lib.hid hK
                      clear hK he hi hBW
                      gi_step
                      exact HK.out _ _ rfl (Below.refl _ _)
                    · simp only [getElem?_toArray, getElem?_cons_zero, getElem?_cons_succ, Option.some.injEq] at ho
                      subst ho
                      have e1 : vs 1 = .bool false := (he ⟨1, .guard⟩ (by simp) rfl : co9F cb P k m ob 1 (vs 1) W)
                      rw [e1] at hK ⊢
                      rw [if_pos (by rfl)]
                      simp only [put_someT, setIfInBounds_toArray, set_cons_zero, set_cons_succ] at hK
                      have HK := Lib.hid hK
                      clear hK he hi hBW
                      have ccC2W := C2W.out
                      gi_step
                      exact HK.out _ _ rfl (Below.refl _ _)
                    · simp only [getElem?_toArray, getElem?_cons_zero, getElem?_cons_succ, Option.some.injEq] at ho
                      subst ho
                      have e2 : vs 2 = .pointer (some ⟨cb, 0, none⟩) := (he ⟨2, .data⟩ (by simp) rfl : co9F cb P k m ob 2 (vs 2) W)
                      rw [e2] at hK ⊢
                      have e1 : vs 1 = .bool false := (he ⟨1, .guard⟩ (by simp) rfl : co9F cb P k m ob 1 (vs 1) W)
                      rw [e1] at hK ⊢
                      rw [if_pos (by rfl)]
                      simp only [put_someT, setIfInBounds_toArray, set_cons_zero, set_cons_succ] at hK
                      have HK := Lib.hid hK
                      clear hK he hi hBW
                      gi_step
                      exact HK.out _ _ rfl (Below.refl _ _)
                    · simp only [getElem?_toArray, getElem?_cons_zero, getElem?_cons_succ, Option.some.injEq] at ho
                      subst ho
                      have e3 : vs 3 = .pointer (some ⟨cb, 0, none⟩) := (he ⟨3, .data⟩ (by simp) rfl : co9F cb P k m ob 3 (vs 3) W)
                      rw [e3] at hK ⊢
                      have e1 : vs 1 = .bool false := (he ⟨1, .guard⟩ (by simp) rfl : co9F cb P k m ob 1 (vs 1) W)
                      rw [e1] at hK ⊢
                      rw [if_pos (by rfl)]
                      simp only [put_someT, setIfInBounds_toArray, set_cons_zero, set_cons_succ] at hK
                      have HK := Lib.hid hK
                      clear hK he hi hBW
                      gi_step
                      exact HK.out _ _ rfl (Below.refl _ _)
                    · simp only [getElem?_toArray, getElem?_cons_zero, getElem?_cons_succ, Option.some.injEq] at ho
                      subst ho
                      have e4 : vs 4 = .pointer (some ⟨cb, 0, none⟩) := (he ⟨4, .data⟩ (by simp) rfl : co9F cb P k m ob 4 (vs 4) W)
                      rw [e4] at hK ⊢
                      have e1 : vs 1 = .bool false := (he ⟨1, .guard⟩ (by simp) rfl : co9F cb P k m ob 1 (vs 1) W)
                      rw [e1] at hK ⊢
                      rw [if_pos (by rfl)]
                      simp only [put_someT, setIfInBounds_toArray, set_cons_zero, set_cons_succ] at hK
                      have HK := Lib.hid hK
                      clear hK he hi hBW
                      have ccC0W := C0W.out
                      gi_step
                      exact HK.out _ _ rfl (Below.refl _ _)
                    · simp only [getElem?_toArray, getElem?_cons_zero, getElem?_cons_succ, Option.some.injEq] at ho
                      subst ho
                      have e1 : vs 1 = .bool false := (he ⟨1, .guard⟩ (by simp) rfl : co9F cb P k m ob 1 (vs 1) W)
                      rw [e1] at hK ⊢
                      rw [if_pos (by rfl)]
                      simp only [put_someT, setIfInBounds_toArray, set_cons_zero, set_cons_succ] at hK
                      have HK := Lib.hid hK
                      clear hK he hi hBW
                      have ccK3W := K3W.out
                      gi_step
                      exact HK.out _ _ rfl (Below.refl _ _)
                    · simp only [getElem?_toArray, getElem?_cons_zero, getElem?_cons_succ, Option.some.injEq] at ho
                      subst ho
                      have e1 : vs 1 = .bool false := (he ⟨1, .guard⟩ (by simp) rfl : co9F cb P k m ob 1 (vs 1) W)
                      rw [e1] at hK ⊢
                      rw [if_pos (by rfl)]
                      simp only [put_someT, setIfInBounds_toArray, set_cons_zero, set_cons_succ] at hK
                      have HK := Lib.hid hK
                      clear hK he hi hBW
                      gi_step
                      exact HK.out _ _ rfl (Below.refl _ _)
                    · simp only [getElem?_toArray, getElem?_cons_zero, getElem?_cons_succ, Option.some.injEq] at ho
                      subst ho
                      have e5 : vs 5 = .pointer (some ⟨P, 0, none⟩) := (he ⟨5, .data⟩ (by simp) rfl : co9F cb P k m ob 5 (vs 5) W)
                      rw [e5] at hK ⊢
                      have e6 : vs 6 = .int .i64 (k : Int) := (he ⟨6, .data⟩ (by simp) rfl : co9F cb P k m ob 6 (vs 6) W)
                      rw [e6] at hK ⊢
                      have e7 : vs 7 = .int .i64 (m : Int) := (he ⟨7, .data⟩ (by simp) rfl : co9F cb P k m ob 7 (vs 7) W)
                      rw [e7] at hK ⊢
                      have e1 : vs 1 = .bool false := (he ⟨1, .guard⟩ (by simp) rfl : co9F cb P k m ob 1 (vs 1) W)
                      rw [e1] at hK ⊢
                      rw [if_pos (by rfl)]
                      simp only [put_someT, setIfInBounds_toArray, set_cons_zero, set_cons_succ] at hK
                      have HK := Lib.hid hK
                      clear hK he hi hBW
                      have POW := PO.out _ GW.out.old
                      rw [HOB.out] at POW
                      gi_step
                      refine ⟨trivial, ?_⟩
                      gi_at_call 133
                      refine (CallsIn.inRound l (callsIn_wide.2 POW)).mono ?_
                      rintro en w9 ⟨rfl, h⟩
                      exact HK.out _ _ rfl h
                    · simp only [getElem?_toArray, getElem?_cons_zero, getElem?_cons_succ, Option.some.injEq] at ho
                      subst ho
                      have e1 : vs 1 = .bool false := (he ⟨1, .data⟩ (by simp) rfl : co9F cb P k m ob 1 (vs 1) W)
                      rw [e1] at hK ⊢
                      have e8 : vs 8 = .bool ob := (he ⟨8, .data⟩ (by simp) rfl : co9F cb P k m ob 8 (vs 8) W)
                      rw [e8] at hK ⊢
                      rw [if_pos (by rfl)]
                      simp only [put_someT, setIfInBounds_toArray, set_cons_zero, set_cons_succ] at hK
                      have HK := Lib.hid hK
                      clear hK he hi hBW
                      gi_step
                      exact HK.out _ _ rfl (Below.refl _ _)
                  · intro vs W12 hall hBW
                    have e9 : vs 9 = .bool ob := (hall 9 (by decide) : co9F cb P k m ob 9 (vs 9) W12)
                    simp only [take_succ_cons, take_zero, List.drop_succ_cons, List.drop_zero, fillV, put_someT, put_noneC, setIfInBounds_toArray, set_cons_zero, set_cons_succ]
                    rw [e9]
                    have G12 := Lib.hid (GN.out.then hBW)
                    have KO2 := Lib.hid (KO1.out.trans (KeepsOthers.of_grownBy (grown_below hBW) (fun _ _ h => by cases h)))
                    have KX2 := Lib.hid (KX1.out.trans (KX.of hBW))
                    generalize vs 0 = s0
                    generalize vs 1 = s1
                    generalize vs 2 = s2
                    generalize vs 3 = s3
                    generalize vs 4 = s4
                    generalize vs 5 = s5
                    generalize vs 6 = s6
                    generalize vs 7 = s7
                    generalize vs 8 = s8
                    clear hall hBW e9 KO1 KX1 GN
                    have oc := G12.out.oc
                    have of := G12.out.of
                    gi_wp2_with fail
                    have OE := Lib.hid (show (false || obsP L (k : Int) (m : Int)) = ob by rw [HOB.out]; rfl)
                    exact ⟨(KO2.out.trans (KeepsOthers.setCell _ _ _)).from _, KX2.out.trans (KX.set _ (Or.inr rfl) _ _), by unfold CoI; rw [BS.out, BE.out, OS.out, OE.out]; exact G12.out.setO ob⟩
                · obtain ⟨ob, hob⟩ : ∃ ob, obsP L (k : Int) (m : Int) = ob := ⟨_, rfl⟩
                  have HOB := Lib.hid hob
                  clear hob
                  refine wpIn_region_tail (PP := co9T cb P k m ob) 10 rfl (by kernel_rfl) (by kernel_rfl) (by decide) (by decide) (co9T_mono cb P k m ob) (fun _ => undef) (by simp [fillV, put_someT, setIfInBounds_toArray, set_cons_zero, set_cons_succ]) ?_ ?_
                  · intro i o vs W hi ho he hBW K hK
                    simp only [take_succ_cons, take_zero, fillV, put_someT, setIfInBounds_toArray, set_cons_zero, set_cons_succ] at hK ⊢
                    have GW := Lib.hid (GN.out.then hBW)
                    have C2W := Lib.hid GW.out.c2
                    have K3W := Lib.hid GW.out.k3
                    have C0W := Lib.hid (HC.out.then GW.out.old).c0
                    have OCW := Lib.hid GW.out.oc
                    obtain rfl | rfl | rfl | rfl | rfl | rfl | rfl | rfl | rfl | rfl := (show i = 0 ∨ i = 1 ∨ i = 2 ∨ i = 3 ∨ i = 4 ∨ i = 5 ∨ i = 6 ∨ i = 7 ∨ i = 8 ∨ i = 9 by exact (by have : i < 10 := hi; omega))
                    · simp only [getElem?_toArray, getElem?_cons_zero, getElem?_cons_succ, Option.some.injEq] at ho
                      subst ho
                      rw [if_pos (by rfl)]
                      simp only [put_someT, setIfInBounds_toArray, set_cons_zero, set_cons_succ] at hK
                      have HK := Lib.hid hK
                      clear hK he hi hBW
                      have ccOCW := OCW.out
                      gi_step
                      exact HK.out _ _ rfl (Below.refl _ _)
                    · simp only [getElem?_toArray, getElem?_cons_zero, getElem?_cons_succ, Option.some.injEq] at ho
                      subst ho
                      have e0 : vs 0 = .bool true := (he ⟨0, .data⟩ (by simp) rfl : co9T cb P k m ob 0 (vs 0) W)
                      rw [e0] at hK ⊢
                      rw [if_pos (by rfl)]
                      simp only [put_someT, setIfInBounds_toArray, set_cons_zero, set_cons_succ] at hK
                      have HK := Lib.hid hK
                      clear hK he hi hBW
                      gi_step
                      exact HK.out _ _ rfl (Below.refl _ _)
                    · simp only [getElem?_toArray, getElem?_cons_zero, getElem?_cons_succ, Option.some.injEq] at ho
                      subst ho
                      have e1 : vs 1 = .bool true := (he ⟨1, .guard⟩ (by simp) rfl : co9T cb P k m ob 1 (vs 1) W)
                      rw [e1] at hK ⊢
                      rw [if_neg (by exact Bool.false_ne_true)]
                      refine ⟨fun _ _ => trivial, ?_⟩
                      exact hK _ _ rfl (Below.refl _ _)
                    · simp only [getElem?_toArray, getElem?_cons_zero, getElem?_cons_succ, Option.some.injEq] at ho
                      subst ho
                      have e2 : vs 2 = undef := (he ⟨2, .data⟩ (by simp) rfl : co9T cb P k m ob 2 (vs 2) W)
                      rw [e2] at hK ⊢
                      have e1 : vs 1 = .bool true := (he ⟨1, .guard⟩ (by simp) rfl : co9T cb P k m ob 1 (vs 1) W)
                      rw [e1] at hK ⊢
                      rw [if_neg (by exact Bool.false_ne_true)]
                      refine ⟨fun _ _ => trivial, ?_⟩
                      exact hK _ _ rfl (Below.refl _ _)
                    · simp only [getElem?_toArray, getElem?_cons_zero, getElem?_cons_succ, Option.some.injEq] at ho
                      subst ho
                      have e3 : vs 3 = undef := (he ⟨3, .data⟩ (by simp) rfl : co9T cb P k m ob 3 (vs 3) W)
                      rw [e3] at hK ⊢
                      have e1 : vs 1 = .bool true := (he ⟨1, .guard⟩ (by simp) rfl : co9T cb P k m ob 1 (vs 1) W)
                      rw [e1] at hK ⊢
                      rw [if_neg (by exact Bool.false_ne_true)]
                      refine ⟨fun _ _ => trivial, ?_⟩
                      exact hK _ _ rfl (Below.refl _ _)
                    · simp only [getElem?_toArray, getElem?_cons_zero, getElem?_cons_succ, Option.some.injEq] at ho
                      subst ho
                      have e4 : vs 4 = undef := (he ⟨4, .data⟩ (by simp) rfl : co9T cb P k m ob 4 (vs 4) W)
                      rw [e4] at hK ⊢
                      have e1 : vs 1 = .bool true := (he ⟨1, .guard⟩ (by simp) rfl : co9T cb P k m ob 1 (vs 1) W)
                      rw [e1] at hK ⊢
                      rw [if_neg (by exact Bool.false_ne_true)]
                      refine ⟨fun _ _ => trivial, ?_⟩
                      exact hK _ _ rfl (Below.refl _ _)
                    · simp only [getElem?_toArray, getElem?_cons_zero, getElem?_cons_succ, Option.some.injEq] at ho
                      subst ho
                      have e1 : vs 1 = .bool true := (he ⟨1, .guard⟩ (by simp) rfl : co9T cb P k m ob 1 (vs 1) W)
                      rw [e1] at hK ⊢
                      rw [if_neg (by exact Bool.false_ne_true)]
                      refine ⟨fun _ _ => trivial, ?_⟩
                      exact hK _ _ rfl (Below.refl _ _)
                    · simp only [getElem?_toArray, getElem?_cons_zero, getElem?_cons_succ, Option.some.injEq] at ho
                      subst ho
                      have e1 : vs 1 = .bool true := (he ⟨1, .guard⟩ (by simp) rfl : co9T cb P k m ob 1 (vs 1) W)
                      rw [e1] at hK ⊢
                      rw [if_neg (by exact Bool.false_ne_true)]
                      refine ⟨fun _ _ => trivial, ?_⟩
                      exact hK _ _ rfl (Below.refl _ _)
                    · simp only [getElem?_toArray, getElem?_cons_zero, getElem?_cons_succ, Option.some.injEq] at ho
                      subst ho
                      have e5 : vs 5 = undef := (he ⟨5, .data⟩ (by simp) rfl : co9T cb P k m ob 5 (vs 5) W)
                      rw [e5] at hK ⊢
                      have e6 : vs 6 = undef := (he ⟨6, .data⟩ (by simp) rfl : co9T cb P k m ob 6 (vs 6) W)
                      rw [e6] at hK ⊢
                      have e7 : vs 7 = undef := (he ⟨7, .data⟩ (by simp) rfl : co9T cb P k m ob 7 (vs 7) W)
                      rw [e7] at hK ⊢
                      have e1 : vs 1 = .bool true := (he ⟨1, .guard⟩ (by simp) rfl : co9T cb P k m ob 1 (vs 1) W)
                      rw [e1] at hK ⊢
                      rw [if_neg (by exact Bool.false_ne_true)]
                      refine ⟨fun _ _ => trivial, ?_⟩
                      exact hK _ _ rfl (Below.refl _ _)
                    · simp only [getElem?_toArray, getElem?_cons_zero, getElem?_cons_succ, Option.some.injEq] at ho
                      subst ho
                      have e1 : vs 1 = .bool true := (he ⟨1, .data⟩ (by simp) rfl : co9T cb P k m ob 1 (vs 1) W)
                      rw [e1] at hK ⊢
                      have e8 : vs 8 = undef := (he ⟨8, .data⟩ (by simp) rfl : co9T cb P k m ob 8 (vs 8) W)
                      rw [e8] at hK ⊢
                      rw [if_pos (by rfl)]
                      simp only [put_someT, setIfInBounds_toArray, set_cons_zero, set_cons_succ] at hK
                      have HK := Lib.hid hK
                      clear hK he hi hBW
                      gi_step
                      exact HK.out _ _ rfl (Below.refl _ _)
                  · intro vs W12 hall hBW
                    have e9 : vs 9 = .bool true := (hall 9 (by decide) : co9T cb P k m ob 9 (vs 9) W12)
                    simp only [take_succ_cons, take_zero, List.drop_succ_cons, List.drop_zero, fillV, put_someT, put_noneC, setIfInBounds_toArray, set_cons_zero, set_cons_succ]
                    rw [e9]
                    have G12 := Lib.hid (GN.out.then hBW)
                    have KO2 := Lib.hid (KO1.out.trans (KeepsOthers.of_grownBy (grown_below hBW) (fun _ _ h => by cases h)))
                    have KX2 := Lib.hid (KX1.out.trans (KX.of hBW))
                    generalize vs 0 = s0
                    generalize vs 1 = s1
                    generalize vs 2 = s2
                    generalize vs 3 = s3
                    generalize vs 4 = s4
                    generalize vs 5 = s5
                    generalize vs 6 = s6
                    generalize vs 7 = s7
                    generalize vs 8 = s8
                    clear hall hBW e9 KO1 KX1 GN
                    have oc := G12.out.oc
                    have of := G12.out.of
                    gi_wp2_with fail
                    have OE := Lib.hid (show (true || obsP L (k : Int) (m : Int)) = true by rw [HOB.out]; rfl)
                    exact ⟨(KO2.out.trans (KeepsOthers.setCell _ _ _)).from _, KX2.out.trans (KX.set _ (Or.inr rfl) _ _), by unfold CoI; rw [BS.out, BE.out, OS.out, OE.out]; exact G12.out.setO true⟩
        · have NF := Lib.hid (show nmP L m k = false by rw [NME.out]; exact decide_eq_false hnm)
          have HNE := Lib.hid (show (q9.name.toList == q.name.toList) = false ∧ ¬ q9.name.toList = q.name.toList from ⟨beq_eq_false_iff_ne.2 fun h => hnm (toList_inj h), fun h => hnm (toList_inj h)⟩)
          clear hnm
          refine wpIn_region_tail (PP := co7A yb g q9 q) 19 rfl (by kernel_rfl) (by kernel_rfl) (by decide) (by decide) (co7A_mono yb g q9 q) (fun _ => undef) (by simp [fillV, put_someT, setIfInBounds_toArray, set_cons_zero, set_cons_succ]) ?_ ?_
          · intro i o vs W hi ho he hBW K hK
            simp only [take_succ_cons, take_zero, fillV, put_someT, setIfInBounds_toArray, set_cons_zero, set_cons_succ] at hK ⊢
            have X0W := Lib.hid ((hBW.cell (p := ⟨g, 0, none⟩) (World.block_lt_of_cell? W9 _ X0.out)).trans X0.out)
            have Y0W := Lib.hid ((hBW.cell (p := ⟨yb, 0, none⟩) (World.block_lt_of_cell? W9 _ Y0.out)).trans Y0.out)
            have Y1W := Lib.hid ((hBW.cell (p := ⟨yb, 1, none⟩) (World.block_lt_of_cell? W9 _ Y1.out)).trans Y1.out)
            have Y2W := Lib.hid ((hBW.cell (p := ⟨yb, 2, none⟩) (World.block_lt_of_cell? W9 _ Y2.out)).trans Y2.out)
            have Y3W := Lib.hid ((hBW.cell (p := ⟨yb, 3, none⟩) (World.block_lt_of_cell? W9 _ Y3.out)).trans Y3.out)
            have BCW := Lib.hid ((hBW.cell (p := ⟨kb, 0, none⟩) (World.block_lt_of_cell? W9 _ BC.out)).trans BC.out)
            obtain rfl | rfl | rfl | rfl | rfl | rfl | rfl | rfl | rfl | rfl | rfl | rfl | rfl | rfl | rfl | rfl | rfl | rfl | rfl := (show i = 0 ∨ i = 1 ∨ i = 2 ∨ i = 3 ∨ i = 4 ∨ i = 5 ∨ i = 6 ∨ i = 7 ∨ i = 8 ∨ i = 9 ∨ i = 10 ∨ i = 11 ∨ i = 12 ∨ i = 13 ∨ i = 14 ∨ i = 15 ∨ i = 16 ∨ i = 17 ∨ i = 18 by exact (by have : i < 19 := hi; omega))
            · simp only [getElem?_toArray, getElem?_cons_zero, getElem?_cons_succ, Option.some.injEq] at ho
              subst ho
              rw [if_pos (by rfl)]
              simp only [put_someT, setIfInBounds_toArray, set_cons_zero, set_cons_succ] at hK
              have HK := Lib.hid hK
              clear hK he hi hBW
              gi_step
              exact HK.out _ _ rfl (Below.refl _ _)
            · simp only [getElem?_toArray, getElem?_cons_zero, getElem?_cons_succ, Option.some.injEq] at ho
              subst ho
              have e0 : vs 0 = .pointer (some ⟨yb, 0, none⟩) := (he ⟨0, .data⟩ (by simp) rfl : co7A yb g q9 q 0 (vs 0) W)
              rw [e0] at hK ⊢
              rw [if_pos (by rfl)]
              simp only [put_someT, setIfInBounds_toArray, set_cons_zero, set_cons_succ] at hK
              have HK := Lib.hid hK
              clear hK he hi hBW
              have ccY0W := Y0W.out
              gi_step
              exact HK.out _ _ rfl (Below.refl _ _)
            · simp only [getElem?_toArray, getElem?_cons_zero, getElem?_cons_succ, Option.some.injEq] at ho
              subst ho
              rw [if_pos (by rfl)]
              simp only [put_someT, setIfInBounds_toArray, set_cons_zero, set_cons_succ] at hK
              have HK := Lib.hid hK
              clear hK he hi hBW
              gi_step
              exact HK.out _ _ rfl (Below.refl _ _)
            · simp only [getElem?_toArray, getElem?_cons_zero, getElem?_cons_succ, Option.some.injEq] at ho
              subst ho
              have e2 : vs 2 = .pointer (some ⟨g, 0, none⟩) := (he ⟨2, .data⟩ (by simp) rfl : co7A yb g q9 q 2 (vs 2) W)
              rw [e2] at hK ⊢
              rw [if_pos (by rfl)]
              simp only [put_someT, setIfInBounds_toArray, set_cons_zero, set_cons_succ] at hK
              have HK := Lib.hid hK
              clear hK he hi hBW
              have ccX0W := X0W.out
              gi_step
              exact HK.out _ _ rfl (Below.refl _ _)
            · simp only [getElem?_toArray, getElem?_cons_zero, getElem?_cons_succ, Option.some.injEq] at ho
              subst ho
              have e1 : vs 1 = .string q9.name := (he ⟨1, .data⟩ (by simp) rfl : co7A yb g q9 q 1 (vs 1) W)
              rw [e1] at hK ⊢
              have e3 : vs 3 = .string q.name := (he ⟨3, .data⟩ (by simp) rfl : co7A yb g q9 q 3 (vs 3) W)
              rw [e3] at hK ⊢
              rw [if_pos (by rfl)]
              simp only [put_someT, setIfInBounds_toArray, set_cons_zero, set_cons_succ] at hK
              have HK := Lib.hid hK
              clear hK he hi hBW
              have ne2 := HNE.out.1
              have ne3 := HNE.out.2
              gi_step
              exact HK.out _ _ rfl (Below.refl _ _)
            · simp only [getElem?_toArray, getElem?_cons_zero, getElem?_cons_succ, Option.some.injEq] at ho
              subst ho
              have e4 : vs 4 = .bool false := (he ⟨4, .data⟩ (by simp) rfl : co7A yb g q9 q 4 (vs 4) W)
              rw [e4] at hK ⊢
              rw [if_pos (by rfl)]
              simp only [put_someT, setIfInBounds_toArray, set_cons_zero, set_cons_succ] at hK
              have HK := Lib.hid hK
              clear hK he hi hBW
              gi_step
              exact HK.out _ _ rfl (Below.refl _ _)
            · simp only [getElem?_toArray, getElem?_cons_zero, getElem?_cons_succ, Option.some.injEq] at ho
              subst ho
              have e5 : vs 5 = .bool false := (he ⟨5, .guard⟩ (by simp) rfl : co7A yb g q9 q 5 (vs 5) W)
              rw [e5] at hK ⊢
              rw [if_neg (by exact Bool.false_ne_true)]
              refine ⟨fun _ _ => trivial, ?_⟩
              exact hK _ _ rfl (Below.refl _ _)
            · simp only [getElem?_toArray, getElem?_cons_zero, getElem?_cons_succ, Option.some.injEq] at ho
              subst ho
              have e6 : vs 6 = undef := (he ⟨6, .data⟩ (by simp) rfl : co7A yb g q9 q 6 (vs 6) W)
              rw [e6] at hK ⊢
              have e5 : vs 5 = .bool false := (he ⟨5, .guard⟩ (by simp) rfl : co7A yb g q9 q 5 (vs 5) W)
              rw [e5] at hK ⊢
              rw [if_neg (by exact Bool.false_ne_true)]
              refine ⟨fun _ _ => trivial, ?_⟩
              exact hK _ _ rfl (Below.refl _ _)
            · simp only [getElem?_toArray, getElem?_cons_zero, getElem?_cons_succ, Option.some.injEq] at ho
              subst ho
              have e7 : vs 7 = undef := (he ⟨7, .data⟩ (by simp) rfl : co7A yb g q9 q 7 (vs 7) W)
              rw [e7] at hK ⊢
              have e5 : vs 5 = .bool false := (he ⟨5, .guard⟩ (by simp) rfl : co7A yb g q9 q 5 (vs 5) W)
              rw [e5] at hK ⊢
              rw [if_neg (by exact Bool.false_ne_true)]
              refine ⟨fun _ _ => trivial, ?_⟩
              exact hK _ _ rfl (Below.refl _ _)
            · simp only [getElem?_toArray, getElem?_cons_zero, getElem?_cons_succ, Option.some.injEq] at ho
              subst ho
              have e8 : vs 8 = undef := (he ⟨8, .data⟩ (by simp) rfl : co7A yb g q9 q 8 (vs 8) W)
              rw [e8] at hK ⊢
              have e5 : vs 5 = .bool false := (he ⟨5, .guard⟩ (by simp) rfl : co7A yb g q9 q 5 (vs 5) W)
              rw [e5] at hK ⊢
              rw [if_neg (by exact Bool.false_ne_true)]
              refine ⟨fun _ _ => trivial, ?_⟩
              exact hK _ _ rfl (Below.refl _ _)
            · simp only [getElem?_toArray, getElem?_cons_zero, getElem?_cons_succ, Option.some.injEq] at ho
              subst ho
              have e9 : vs 9 = undef := (he ⟨9, .guard⟩ (by simp) rfl : co7A yb g q9 q 9 (vs 9) W)
              rw [e9] at hK ⊢
              rw [if_neg (by exact Bool.false_ne_true)]
              refine ⟨fun _ _ => trivial, ?_⟩
              exact hK _ _ rfl (Below.refl _ _)
            · simp only [getElem?_toArray, getElem?_cons_zero, getElem?_cons_succ, Option.some.injEq] at ho
              subst ho
              have e10 : vs 10 = undef := (he ⟨10, .data⟩ (by simp) rfl : co7A yb g q9 q 10 (vs 10) W)
              rw [e10] at hK ⊢
              have e9 : vs 9 = undef := (he ⟨9, .guard⟩ (by simp) rfl : co7A yb g q9 q 9 (vs 9) W)
              rw [e9] at hK ⊢
              rw [if_neg (by exact Bool.false_ne_true)]
              refine ⟨fun _ _ => trivial, ?_⟩
              exact hK _ _ rfl (Below.refl _ _)
            · simp only [getElem?_toArray, getElem?_cons_zero, getElem?_cons_succ, Option.some.injEq] at ho
              subst ho
              have e9 : vs 9 = undef := (he ⟨9, .guard⟩ (by simp) rfl : co7A yb g q9 q 9 (vs 9) W)
              rw [e9] at hK ⊢
              rw [if_neg (by exact Bool.false_ne_true)]
              refine ⟨fun _ _ => trivial, ?_⟩
              exact hK _ _ rfl (Below.refl _ _)
            · simp only [getElem?_toArray, getElem?_cons_zero, getElem?_cons_succ, Option.some.injEq] at ho
              subst ho
              have e12 : vs 12 = undef := (he ⟨12, .data⟩ (by simp) rfl : co7A yb g q9 q 12 (vs 12) W)
              rw [e12] at hK ⊢
              have e9 : vs 9 = undef := (he ⟨9, .guard⟩ (by simp) rfl : co7A yb g q9 q 9 (vs 9) W)
              rw [e9] at hK ⊢
              rw [if_neg (by exact Bool.false_ne_true)]
              refine ⟨fun _ _ => trivial, ?_⟩
              exact hK _ _ rfl (Below.refl _ _)
            · simp only [getElem?_toArray, getElem?_cons_zero, getElem?_cons_succ, Option.some.injEq] at ho
              subst ho
              have e13 : vs 13 = undef := (he ⟨13, .data⟩ (by simp) rfl : co7A yb g q9 q 13 (vs 13) W)
              rw [e13] at hK ⊢
              have e9 : vs 9 = undef := (he ⟨9, .guard⟩ (by simp) rfl : co7A yb g q9 q 9 (vs 9) W)
              rw [e9] at hK ⊢
              rw [if_neg (by exact Bool.false_ne_true)]
              refine ⟨fun _ _ => trivial, ?_⟩
              exact hK _ _ rfl (Below.refl _ _)
            · simp only [getElem?_toArray, getElem?_cons_zero, getElem?_cons_succ, Option.some.injEq] at ho
              subst ho
              have e11 : vs 11 = undef := (he ⟨11, .data⟩ (by simp) rfl : co7A yb g q9 q 11 (vs 11) W)
              rw [e11] at hK ⊢
              have e14 : vs 14 = undef := (he ⟨14, .data⟩ (by simp) rfl : co7A yb g q9 q 14 (vs 14) W)
              rw [e14] at hK ⊢
              have e9 : vs 9 = undef := (he ⟨9, .guard⟩ (by simp) rfl : co7A yb g q9 q 9 (vs 9) W)
              rw [e9] at hK ⊢
              rw [if_neg (by exact Bool.false_ne_true)]
              refine ⟨fun _ _ => trivial, ?_⟩
              exact hK _ _ rfl (Below.refl _ _)
            · simp only [getElem?_toArray, getElem?_cons_zero, getElem?_cons_succ, Option.some.injEq] at ho
              subst ho
              have e15 : vs 15 = undef := (he ⟨15, .data⟩ (by simp) rfl : co7A yb g q9 q 15 (vs 15) W)
              rw [e15] at hK ⊢
              have e9 : vs 9 = undef := (he ⟨9, .guard⟩ (by simp) rfl : co7A yb g q9 q 9 (vs 9) W)
              rw [e9] at hK ⊢
              rw [if_neg (by exact Bool.false_ne_true)]
              refine ⟨fun _ _ => trivial, ?_⟩
              exact hK _ _ rfl (Below.refl _ _)
            · simp only [getElem?_toArray, getElem?_cons_zero, getElem?_cons_succ, Option.some.injEq] at ho
              subst ho
              have e9 : vs 9 = undef := (he ⟨9, .data⟩ (by simp) rfl : co7A yb g q9 q 9 (vs 9) W)
              rw [e9] at hK ⊢
              have e16 : vs 16 = undef := (he ⟨16, .data⟩ (by simp) rfl : co7A yb g q9 q 16 (vs 16) W)
              rw [e16] at hK ⊢
              have e5 : vs 5 = .bool false := (he ⟨5, .guard⟩ (by simp) rfl : co7A yb g q9 q 5 (vs 5) W)
              rw [e5] at hK ⊢
              rw [if_neg (by exact Bool.false_ne_true)]
              refine ⟨fun _ _ => trivial, ?_⟩
              exact hK _ _ rfl (Below.refl _ _)
            · simp only [getElem?_toArray, getElem?_cons_zero, getElem?_cons_succ, Option.some.injEq] at ho
              subst ho
              have e5 : vs 5 = .bool false := (he ⟨5, .data⟩ (by simp) rfl : co7A yb g q9 q 5 (vs 5) W)
              rw [e5] at hK ⊢
              have e17 : vs 17 = undef := (he ⟨17, .data⟩ (by simp) rfl : co7A yb g q9 q 17 (vs 17) W)
              rw [e17] at hK ⊢
              rw [if_pos (by rfl)]
              simp only [put_someT, setIfInBounds_toArray, set_cons_zero, set_cons_succ] at hK
              have HK := Lib.hid hK
              clear hK he hi hBW
              gi_step
              exact HK.out _ _ rfl (Below.refl _ _)
          · intro vs W10 hall hBW
            have e18 : vs 18 = .bool false := (hall 18 (by decide) : co7A yb g q9 q 18 (vs 18) W10)
            simp only [take_succ_cons, take_zero, List.drop_succ_cons, List.drop_zero, fillV, put_someT, put_noneC, setIfInBounds_toArray, set_cons_zero, set_cons_succ]
            rw [e18]
            have G10 := Lib.hid (G9.out.then hBW)
            have B10 := Lib.hid (B9.out.trans (hBW.mono B9.out.size))
            have Y1X := Lib.hid ((hBW.cell (p := ⟨yb, 1, none⟩) (World.block_lt_of_cell? W9 _ Y1.out)).trans Y1.out)
            have Y2X := Lib.hid ((hBW.cell (p := ⟨yb, 2, none⟩) (World.block_lt_of_cell? W9 _ Y2.out)).trans Y2.out)
            have Y3X := Lib.hid ((hBW.cell (p := ⟨yb, 3, none⟩) (World.block_lt_of_cell? W9 _ Y3.out)).trans Y3.out)
            generalize vs 0 = r0
            generalize vs 1 = r1
            generalize vs 2 = r2
            generalize vs 3 = r3
            generalize vs 4 = r4
            generalize vs 5 = r5
            generalize vs 6 = r6
            generalize vs 7 = r7
            generalize vs 8 = r8
            generalize vs 9 = r9
            generalize vs 10 = r10
            generalize vs 11 = r11
            generalize vs 12 = r12
            generalize vs 13 = r13
            generalize vs 14 = r14
            generalize vs 15 = r15
            generalize vs 16 = r16
            generalize vs 17 = r17
            clear hall hBW e18 Y0 Y1 Y2 Y3 X0 BC BI G9 B9
            have BE := Lib.hid (show St.bestStep (nmP L) (cmpI2 L) k bp m = bp by unfold St.bestStep; rw [NF.out]; rfl)
            have KO1 := Lib.hid (KeepsOthers.of_grownBy (grown_below B10.out) (fun _ _ h => by cases h))
            have KX1 := Lib.hid (KX.of (X := fun b => b = kb ∨ b = kb + 1) B10.out)
            have GN := G10
            clear G10 B10 Y1X Y2X Y3X
            gi_wp2_with fail
            generalize W10 = W11 at *
            cases ov
            · obtain ⟨ob, hob⟩ : ∃ ob, obsP L (k : Int) (m : Int) = ob := ⟨_, rfl⟩
              have HOB := Lib.hid hob
              clear hob
              refine wpIn_region_tail (PP := co9F cb P k m ob) 10 rfl (by kernel_rfl) (by kernel_rfl) (by decide) (by decide) (co9F_mono cb P k m ob) (fun _ => undef) (by simp [fillV, put_someT, setIfInBounds_toArray, set_cons_zero, set_cons_succ]) ?_ ?_
              · intro i o vs W hi ho he hBW K hK
                simp only [take_succ_cons, take_zero, fillV, put_someT, setIfInBounds_toArray, set_cons_zero, set_cons_succ] at hK ⊢
                have GW := Lib.hid (GN.out.then hBW)
                have C2W := Lib.hid GW.out.c2
                have K3W := Lib.hid GW.out.k3
                have C0W := Lib.hid (HC.out.then GW.out.old).c0
                have OCW := Lib.hid GW.out.oc
                obtain rfl | rfl | rfl | rfl | rfl | rfl | rfl | rfl | rfl | rfl := (show i = 0 ∨ i = 1 ∨ i = 2 ∨ i = 3 ∨ i = 4 ∨ i = 5 ∨ i = 6 ∨ i = 7 ∨ i = 8 ∨ i = 9 by exact (by have : i < 10 := hi; omega))
                · simp only [getElem?_toArray, getElem?_cons_zero, getElem?_cons_succ, Option.some.injEq] at ho
                  subst ho
                  rw [if_pos (by rfl)]
                  simp only [put_someT, setIfInBounds_toArray, set_cons_zero, set_cons_succ] at hK
                  have HK := Lib.hid hK
                  clear hK he hi hBW
                  have ccOCW := OCW.out
                  gi_step
                  exact HK.out _ _ rfl (Below.refl _ _)
                · simp only [getElem?_toArray, getElem?_cons_zero, getElem?_cons_succ, Option.some.injEq] at ho
                  subst ho
                  have e0 : vs 0 = .bool false := (he ⟨0, .data⟩ (by simp) rfl : co9F cb P k m ob 0 (vs 0) W)
                  rw [e0] at hK ⊢
                  rw [if_pos (by rfl)]
                  simp only [put_someT, setIfInBounds_toArray, set_cons_zero, set_cons_succ] at hK
                  have HK := Lib.hid hK
                  clear hK he hi hBW
                  gi_step
                  exact HK.out _ _ rfl (Below.refl _ _)
                · simp only [getElem?_toArray, getElem?_cons_zero, getElem?_cons_succ, Option.some.injEq] at ho
                  subst ho
                  have e1 : vs 1 = .bool false := (he ⟨1, .guard⟩ (by simp) rfl : co9F cb P k m ob 1 (vs 1) W)
                  rw [e1] at hK ⊢
                  rw [if_pos (by rfl)]
                  simp only [put_someT, setIfInBounds_toArray, set_cons_zero, set_cons_succ] at hK
                  have HK := Lib.hid hK
                  clear hK he hi hBW
                  have ccC2W := C2W.out
                  gi_step
                  exact HK.out _ _ rfl (Below.refl _ _)
                · simp only [getElem?_toArray, getElem?_cons_zero, getElem?_cons_succ, Option.some.injEq] at ho
                  subst ho
                  have e2 : vs 2 = .pointer (some ⟨cb, 0, none⟩) := (he ⟨2, .data⟩ (by simp) rfl : co9F cb P k m ob 2 (vs 2) W)
                  rw [e2] at hK ⊢
                  have e1 : vs 1 = .bool false := (he ⟨1, .guard⟩ (by simp) rfl : co9F cb P k m ob 1 (vs 1) W)
                  rw [e1] at hK ⊢
                  rw [if_pos (by rfl)]
                  simp only [put_someT, setIfInBounds_toArray, set_cons_zero, set_cons_succ] at hK
                  have HK := Lib.hid hK
                  clear hK he hi hBW
                  gi_step
                  exact HK.out _ _ rfl (Below.refl _ _)
                · simp only [getElem?_toArray, getElem?_cons_zero, getElem?_cons_succ, Option.some.injEq] at ho
                  subst ho
                  have e3 : vs 3 = .pointer (some ⟨cb, 0, none⟩) := (he ⟨3, .data⟩ (by simp) rfl : co9F cb P k m ob 3 (vs 3) W)
                  rw [e3] at hK ⊢
                  have e1 : vs 1 = .bool false := (he ⟨1, .guard⟩ (by simp) rfl : co9F cb P k m ob 1 (vs 1) W)
                  rw [e1] at hK ⊢
                  rw [if_pos (by rfl)]
                  simp only [put_someT, setIfInBounds_toArray, set_cons_zero, set_cons_succ] at hK
                  have HK := Lib.hid hK
                  clear hK he hi hBW
                  gi_step
                  exact HK.out _ _ rfl (Below.refl _ _)
                · simp only [getElem?_toArray, getElem?_cons_zero, getElem?_cons_succ, Option.some.injEq] at ho
                  subst ho
                  have e4 : vs 4 = .pointer (some ⟨cb, 0, none⟩) := (he ⟨4, .data⟩ (by simp) rfl : co9F cb P k m ob 4 (vs 4) W)
                  rw [e4] at hK ⊢
                  have e1 : vs 1 = .bool false := (he ⟨1, .guard⟩ (by simp) rfl : co9F cb P k m ob 1 (vs 1) W)
                  rw [e1] at hK ⊢
                  rw [if_pos (by rfl)]
                  simp only [put_someT, setIfInBounds_toArray, set_cons_zero, set_cons_succ] at hK
                  have HK := Lib.hid hK
                  clear hK he hi hBW
                  have ccC0W := C0W.out
                  gi_step
                  exact HK.out _ _ rfl (Below.refl _ _)
                · simp only [getElem?_toArray, getElem?_cons_zero, getElem?_cons_succ, Option.some.injEq] at ho
                  subst ho
                  have e1 : vs 1 = .bool false := (he ⟨1, .guard⟩ (by simp) rfl : co9F cb P k m ob 1 (vs 1) W)
                  rw [e1] at hK ⊢
                  rw [if_pos (by rfl)]
                  simp only [put_someT, setIfInBounds_toArray, set_cons_zero, set_cons_succ] at hK
                  have HK := Lib.hid hK
                  clear hK he hi hBW
                  have ccK3W := K3W.out
                  gi_step
                  exact HK.out _ _ rfl (Below.refl _ _)
                · simp only [getElem?_toArray, getElem?_cons_zero, getElem?_cons_succ, Option.some.injEq] at ho
                  subst ho
                  have e1 : vs 1 = .bool false := (he ⟨1, .guard⟩ (by simp) rfl : co9F cb P k m ob 1 (vs 1) W)
                  rw [e1] at hK ⊢
                  rw [if_pos (by rfl)]
                  simp only [put_someT, setIfInBounds_toArray, set_cons_zero, set_cons_succ] at hK
                  have HK := Lib.hid hK
                  clear hK he hi hBW
                  gi_step
                  exact HK.out _ _ rfl (Below.refl _ _)
                · simp only [getElem?_toArray, getElem?_cons_zero, getElem?_cons_succ, Option.some.injEq] at ho
                  subst ho
                  have e5 : vs 5 = .pointer (some ⟨P, 0, none⟩) := (he ⟨5, .data⟩ (by simp) rfl : co9F cb P k m ob 5 (vs 5) W)
                  rw [e5] at hK ⊢
                  have e6 : vs 6 = .int .i64 (k : Int) := (he ⟨6, .data⟩ (by simp) rfl : co9F cb P k m ob 6 (vs 6) W)
                  rw [e6] at hK ⊢
                  have e7 : vs 7 = .int .i64 (m : Int) := (he ⟨7, .data⟩ (by simp) rfl : co9F cb P k m ob 7 (vs 7) W)
                  rw [e7] at hK ⊢
                  have e1 : vs 1 = .bool false := (he ⟨1, .guard⟩ (by simp) rfl : co9F cb P k m ob 1 (vs 1) W)
                  rw [e1] at hK ⊢
                  rw [if_pos (by rfl)]
                  simp only [put_someT, setIfInBounds_toArray, set_cons_zero, set_cons_succ] at hK
                  have HK := Lib.hid hK
                  clear hK he hi hBW
                  have POW := PO.out _ GW.out.old
                  rw [HOB.out] at POW
                  gi_step
                  refine ⟨trivial, ?_⟩
                  gi_at_call 133
                  refine (CallsIn.inRound l (callsIn_wide.2 POW)).mono ?_
                  rintro en w9 ⟨rfl, h⟩
                  exact HK.out _ _ rfl h
                · simp only [getElem?_toArray, getElem?_cons_zero, getElem?_cons_succ, Option.some.injEq] at ho
                  subst ho
                  have e1 : vs 1 = .bool false := (he ⟨1, .data⟩ (by simp) rfl : co9F cb P k m ob 1 (vs 1) W)
                  rw [e1] at hK ⊢
                  have e8 : vs 8 = .bool ob := (he ⟨8, .data⟩ (by simp) rfl : co9F cb P k m ob 8 (vs 8) W)
                  rw [e8] at hK ⊢
                  rw [if_pos (by rfl)]
                  simp only [put_someT, setIfInBounds_toArray, set_cons_zero, set_cons_succ] at hK
                  have HK := Lib.hid hK
                  clear hK he hi hBW
                  gi_step
                  exact HK.out _ _ rfl (Below.refl _ _)
              · intro vs W12 hall hBW
                have e9 : vs 9 = .bool ob := (hall 9 (by decide) : co9F cb P k m ob 9 (vs 9) W12)
                simp only [take_succ_cons, take_zero, List.drop_succ_cons, List.drop_zero, fillV, put_someT, put_noneC, setIfInBounds_toArray, set_cons_zero, set_cons_succ]
                rw [e9]
                have G12 := Lib.hid (GN.out.then hBW)
                have KO2 := Lib.hid (KO1.out.trans (KeepsOthers.of_grownBy (grown_below hBW) (fun _ _ h => by cases h)))
                have KX2 := Lib.hid (KX1.out.trans (KX.of hBW))
                generalize vs 0 = s0
                generalize vs 1 = s1
                generalize vs 2 = s2
                generalize vs 3 = s3
                generalize vs 4 = s4
                generalize vs 5 = s5
                generalize vs 6 = s6
                generalize vs 7 = s7
                generalize vs 8 = s8
                clear hall hBW e9 KO1 KX1 GN
                have oc := G12.out.oc
                have of := G12.out.of
                gi_wp2_with fail
                have OE := Lib.hid (show (false || obsP L (k : Int) (m : Int)) = ob by rw [HOB.out]; rfl)
                exact ⟨(KO2.out.trans (KeepsOthers.setCell _ _ _)).from _, KX2.out.trans (KX.set _ (Or.inr rfl) _ _), by unfold CoI; rw [BS.out, BE.out, OS.out, OE.out]; exact G12.out.setO ob⟩
            · obtain ⟨ob, hob⟩ : ∃ ob, obsP L (k : Int) (m : Int) = ob := ⟨_, rfl⟩
              have HOB := Lib.hid hob
              clear hob
              refine wpIn_region_tail (PP := co9T cb P k m ob) 10 rfl (by kernel_rfl) (by kernel_rfl) (by decide) (by decide) (co9T_mono cb P k m ob) (fun _ => undef) (by simp [fillV, put_someT, setIfInBounds_toArray, set_cons_zero, set_cons_succ]) ?_ ?_
              · intro i o vs W hi ho he hBW K hK
                simp only [take_succ_cons, take_zero, fillV, put_someT, setIfInBounds_toArray, set_cons_zero, set_cons_succ] at hK ⊢
                have GW := Lib.hid (GN.out.then hBW)
                have C2W := Lib.hid GW.out.c2
                have K3W := Lib.hid GW.out.k3
                have C0W := Lib.hid (HC.out.then GW.out.old).c0
                have OCW := Lib.hid GW.out.oc
                obtain rfl | rfl | rfl | rfl | rfl | rfl | rfl | rfl | rfl | rfl := (show i = 0 ∨ i = 1 ∨ i = 2 ∨ i = 3 ∨ i = 4 ∨ i = 5 ∨ i = 6 ∨ i = 7 ∨ i = 8 ∨ i = 9 by exact (by have : i < 10 := hi; omega))
                · simp only [getElem?_toArray, getElem?_cons_zero, getElem?_cons_succ, Option.some.injEq] at ho
                  subst ho
                  rw [if_pos (by rfl)]
                  simp only [put_someT, setIfInBounds_toArray, set_cons_zero, set_cons_succ] at hK
                  have HK := Lib.hid hK
                  clear hK he hi hBW
                  have ccOCW := OCW.out
                  gi_step
                  exact HK.out _ _ rfl (Below.refl _ _)
                · simp only [getElem?_toArray, getElem?_cons_zero, getElem?_cons_succ, Option.some.injEq] at ho
                  subst ho
                  have e0 : vs 0 = .bool true := (he ⟨0, .data⟩ (by simp) rfl : co9T cb P k m ob 0 (vs 0) W)
                  rw [e0] at hK ⊢
                  rw [if_pos (by rfl)]
                  simp only [put_someT, setIfInBounds_toArray, set_cons_zero, set_cons_succ] at hK
                  have HK := Lib.hid hK
                  clear hK he hi hBW
                  gi_step
                  exact HK.out _ _ rfl (Below.refl _ _)
                · simp only [getElem?_toArray, getElem?_cons_zero, getElem?_cons_succ, Option.some.injEq] at ho
                  subst ho
                  have e1 : vs 1 = .bool true := (he ⟨1, .guard⟩ (by simp) rfl : co9T cb P k m ob 1 (vs 1) W)
                  rw [e1] at hK ⊢
                  rw [if_neg (by exact Bool.false_ne_true)]
                  refine ⟨fun _ _ => trivial, ?_⟩
                  exact hK _ _ rfl (Below.refl _ _)
                · simp only [getElem?_toArray, getElem?_cons_zero, getElem?_cons_succ, Option.some.injEq] at ho
                  subst ho
                  have e2 : vs 2 = undef := (he ⟨2, .data⟩ (by simp) rfl : co9T cb P k m ob 2 (vs 2) W)
                  rw [e2] at hK ⊢
                  have e1 : vs 1 = .bool true := (he ⟨1, .guard⟩ (by simp) rfl : co9T cb P k m ob 1 (vs 1) W)
                  rw [e1] at hK ⊢
                  rw [if_neg (by exact Bool.false_ne_true)]
                  refine ⟨fun _ _ => trivial, ?_⟩
                  exact hK _ _ rfl (Below.refl _ _)
                · simp only [getElem?_toArray, getElem?_cons_zero, getElem?_cons_succ, Option.some.injEq] at ho
                  subst ho
                  have e3 : vs 3 = undef := (he ⟨3, .data⟩ (by simp) rfl : co9T cb P k m ob 3 (vs 3) W)
                  rw [e3] at hK ⊢
                  have e1 : vs 1 = .bool true := (he ⟨1, .guard⟩ (by simp) rfl : co9T cb P k m ob 1 (vs 1) W)
                  rw [e1] at hK ⊢
                  rw [if_neg (by exact Bool.false_ne_true)]
                  refine ⟨fun _ _ => trivial, ?_⟩
                  exact hK _ _ rfl (Below.refl _ _)
                · simp only [getElem?_toArray, getElem?_cons_zero, getElem?_cons_succ, Option.some.injEq] at ho
                  subst ho
                  have e4 : vs 4 = undef := (he ⟨4, .data⟩ (by simp) rfl : co9T cb P k m ob 4 (vs 4) W)
                  rw [e4] at hK ⊢
                  have e1 : vs 1 = .bool true := (he ⟨1, .guard⟩ (by simp) rfl : co9T cb P k m ob 1 (vs 1) W)
                  rw [e1] at hK ⊢
                  rw [if_neg (by exact Bool.false_ne_true)]
                  refine ⟨fun _ _ => trivial, ?_⟩
                  exact hK _ _ rfl (Below.refl _ _)
                · simp only [getElem?_toArray, getElem?_cons_zero, getElem?_cons_succ, Option.some.injEq] at ho
                  subst ho
                  have e1 : vs 1 = .bool true := (he ⟨1, .guard⟩ (by simp) rfl : co9T cb P k m ob 1 (vs 1) W)
                  rw [e1] at hK ⊢
                  rw [if_neg (by exact Bool.false_ne_true)]
                  refine ⟨fun _ _ => trivial, ?_⟩
                  exact hK _ _ rfl (Below.refl _ _)
                · simp only [getElem?_toArray, getElem?_cons_zero, getElem?_cons_succ, Option.some.injEq] at ho
                  subst ho
                  have e1 : vs 1 = .bool true := (he ⟨1, .guard⟩ (by simp) rfl : co9T cb P k m ob 1 (vs 1) W)
                  rw [e1] at hK ⊢
                  rw [if_neg (by exact Bool.false_ne_true)]
                  refine ⟨fun _ _ => trivial, ?_⟩
                  exact hK _ _ rfl (Below.refl _ _)
                · simp only [getElem?_toArray, getElem?_cons_zero, getElem?_cons_succ, Option.some.injEq] at ho
                  subst ho
                  have e5 : vs 5 = undef := (he ⟨5, .data⟩ (by simp) rfl : co9T cb P k m ob 5 (vs 5) W)
                  rw [e5] at hK ⊢
                  have e6 : vs 6 = undef := (he ⟨6, .data⟩ (by simp) rfl : co9T cb P k m ob 6 (vs 6) W)
                  rw [e6] at hK ⊢
                  have e7 : vs 7 = undef := (he ⟨7, .data⟩ (by simp) rfl : co9T cb P k m ob 7 (vs 7) W)
                  rw [e7] at hK ⊢
                  have e1 : vs 1 = .bool true := (he ⟨1, .guard⟩ (by simp) rfl : co9T cb P k m ob 1 (vs 1) W)
                  rw [e1] at hK ⊢
                  rw [if_neg (by exact Bool.false_ne_true)]
                  refine ⟨fun _ _ => trivial, ?_⟩
                  exact hK _ _ rfl (Below.refl _ _)
                · simp only [getElem?_toArray, getElem?_cons_zero, getElem?_cons_succ, Option.some.injEq] at ho
                  subst ho
                  have e1 : vs 1 = .bool true := (he ⟨1, .data⟩ (by simp) rfl : co9T cb P k m ob 1 (vs 1) W)
                  rw [e1] at hK ⊢
                  have e8 : vs 8 = undef := (he ⟨8, .data⟩ (by simp) rfl : co9T cb P k m ob 8 (vs 8) W)
                  rw [e8] at hK ⊢
                  rw [if_pos (by rfl)]
                  simp only [put_someT, setIfInBounds_toArray, set_cons_zero, set_cons_succ] at hK
                  have HK := Lib.hid hK
                  clear hK he hi hBW
                  gi_step
                  exact HK.out _ _ rfl (Below.refl _ _)
              · intro vs W12 hall hBW
                have e9 : vs 9 = .bool true := (hall 9 (by decide) : co9T cb P k m ob 9 (vs 9) W12)
                simp only [take_succ_cons, take_zero, List.drop_succ_cons, List.drop_zero, fillV, put_someT, put_noneC, setIfInBounds_toArray, set_cons_zero, set_cons_succ]
                rw [e9]
                have G12 := Lib.hid (GN.out.then hBW)
                have KO2 := Lib.hid (KO1.out.trans (KeepsOthers.of_grownBy (grown_below hBW) (fun _ _ h => by cases h)))
                have KX2 := Lib.hid (KX1.out.trans (KX.of hBW))
                generalize vs 0 = s0
                generalize vs 1 = s1
                generalize vs 2 = s2
                generalize vs 3 = s3
                generalize vs 4 = s4
                generalize vs 5 = s5
                generalize vs 6 = s6
                generalize vs 7 = s7
                generalize vs 8 = s8
                clear hall hBW e9 KO1 KX1 GN
                have oc := G12.out.oc
                have of := G12.out.of
                gi_wp2_with fail
                have OE := Lib.hid (show (true || obsP L (k : Int) (m : Int)) = true by rw [HOB.out]; rfl)
                exact ⟨(KO2.out.trans (KeepsOthers.setCell _ _ _)).from _, KX2.out.trans (KX.set _ (Or.inr rfl) _ _), by unfold CoI; rw [BS.out, BE.out, OS.out, OE.out]; exact G12.out.setO true⟩
      case done =>
        rintro D ys W hD hys h2 hK
        obtain ⟨bp, hbp⟩ : ∃ bp, bp = St.bestOf (nmP L) (cmpI2 L) k (ys.map fun y => y.1) none := ⟨_, rfl⟩
        obtain ⟨ov, hov⟩ : ∃ ov, ov = ys.any fun y => obsP L (k : Int) (y.1 : Int) := ⟨_, rfl⟩
        have GB : Hid (CoAt L w cb k g kb q bp ov W) := Lib.hid (by rw [hbp, hov]; exact h2)
        have CV := Lib.hid (show comesV L inb I0 k = comesOf L k bp ov by unfold comesV; rw [hbp, hov, ← hys, List.any_map]; rfl)
        have CM := Lib.hid (fun (j : Nat) (hj : j < L.length) (p r : Pk) (h1 : Alike L[j].pk p) (h2 : Alike L[k].pk r) W' => cmp_alike HP.out hj hk h1 h2 W')
        have HK := Lib.hid hK
        have HD := Lib.hid hD
        obtain ⟨bv, bc, hbi, hbn⟩ := GB.out.bc
        have BI := Lib.hid hbi
        have oc := GB.out.oc
        clear h2 hK hD hbp hov hys hbi hbn
        cases bp with
        | none =>
          obtain rfl : bv = .slice none 0 0 := BI.out
          cases ov
          · gi_wp2_with fail
            refine ⟨by simp, .inl ⟨_, _, rfl, run_takeDeferred HK.out, ?_⟩⟩
            have MP := (GB.out.old).trans (belowK_b (n₀ := w.heap.size) (w := W4) (by have := Z4.out; have := Z3.out; omega) _ D _ (.deferred none) HD.out HK.out rfl rfl)
            exact ⟨.int .u8 1, by simp [results, Tryz.results85, go_sem], by rw [CV.out]; rfl, MP⟩
          · gi_wp2_with fail
            refine ⟨by simp, .inl ⟨_, _, rfl, run_takeDeferred HK.out, ?_⟩⟩
            have MP := (GB.out.old).trans (belowK_b (n₀ := w.heap.size) (w := W4) (by have := Z4.out; have := Z3.out; omega) _ D _ (.deferred none) HD.out HK.out rfl rfl)
            exact ⟨.int .u8 5, by simp [results, Tryz.results85, go_sem], by rw [CV.out]; rfl, MP⟩
        | some j =>
          obtain ⟨hj, r, h, har, rfl, r0, r1, r2⟩ := BI.out
          obtain ⟨d, hd⟩ : ∃ d, cmpI2 L j k = d := ⟨_, rfl⟩
          have CMR := Lib.hid (CM.out j hj r q har (hx ▸ HA.out))
          rw [hd] at CMR
          have CV2 := Lib.hid (show comesV L inb I0 k = (if d < 0 then 2 else if 0 < d then 3 else 4) by rw [CV.out]; unfold comesOf; dsimp only; rw [hd])
          have BC := Lib.hid bc
          have R0 := Lib.hid r0
          have R1 := Lib.hid r1
          have R2 := Lib.hid r2
          clear r0 r1 r2 hd har CM
          gi_wp2_with fail
          have HKL := Lib.hid (Array.getElem?_eq_some_iff.1 HK.out).1
          generalize W = W' at *
          refine wpIn_wide.2 ?_
          refine wp_region_tail (PP := co14 g h q r d) 6 rfl (by kernel_rfl) (by kernel_rfl) (by decide) (by decide) (co14_mono g h q r d) (fun _ => undef) (by simp [fillV, put_someT, setIfInBounds_toArray, set_cons_zero, set_cons_succ]) ?_ ?_
          · intro i o vs W hi ho he hBW K hK
            simp only [take_succ_cons, take_zero, fillV, put_someT, setIfInBounds_toArray, set_cons_zero, set_cons_succ] at hK ⊢
            have GW := GB.out.then hBW
            have X1W := Lib.hid GW.x1
            have X2W := Lib.hid GW.x2
            have X3W := Lib.hid GW.x3
            clear GW
            have BCW := Lib.hid ((hBW.cell (p := ⟨kb, 0, none⟩) (World.block_lt_of_cell? W' _ BC.out)).trans BC.out)
            have R0W := Lib.hid ((hBW.cell (p := ⟨h, 0, none⟩) (World.block_lt_of_cell? W' _ R0.out)).trans R0.out)
            have R1W := Lib.hid ((hBW.cell (p := ⟨h, 1, none⟩) (World.block_lt_of_cell? W' _ R1.out)).trans R1.out)
            have R2W := Lib.hid ((hBW.cell (p := ⟨h, 2, none⟩) (World.block_lt_of_cell? W' _ R2.out)).trans R2.out)
            obtain rfl | rfl | rfl | rfl | rfl | rfl := (show i = 0 ∨ i = 1 ∨ i = 2 ∨ i = 3 ∨ i = 4 ∨ i = 5 by exact (by have : i < 6 := hi; omega))
            · simp only [getElem?_toArray, getElem?_cons_zero, getElem?_cons_succ, Option.some.injEq] at ho
              subst ho
              rw [if_pos (by rfl)]
              simp only [put_someT, setIfInBounds_toArray, set_cons_zero, set_cons_succ] at hK
              have HK := Lib.hid hK
              clear hK he hi hBW
              have ccBCW := BCW.out
              go_simp
              exact HK.out _ _ rfl (Below.refl _ _)
            · simp only [getElem?_toArray, getElem?_cons_zero, getElem?_cons_succ, Option.some.injEq] at ho
              subst ho
              have e0 : vs 0 = .slice (some ⟨h, 0, none⟩) 1 1 := (he ⟨0, .data⟩ (by simp) rfl : co14 g h q r d 0 (vs 0) W)
              rw [e0] at hK ⊢
              rw [if_pos (by rfl)]
              simp only [put_someT, setIfInBounds_toArray, set_cons_zero, set_cons_succ] at hK
              have HK := Lib.hid hK
              clear hK he hi hBW
              go_simp
              exact HK.out _ _ (by first | rfl | simp [co14]) (Below.refl _ _)
            · simp only [getElem?_toArray, getElem?_cons_zero, getElem?_cons_succ, Option.some.injEq] at ho
              subst ho
              have e1 : vs 1 = .pointer (some ⟨h, 0, none⟩) := (he ⟨1, .data⟩ (by simp) rfl : co14 g h q r d 1 (vs 1) W)
              rw [e1] at hK ⊢
              rw [if_pos (by rfl)]
              simp only [put_someT, setIfInBounds_toArray, set_cons_zero, set_cons_succ] at hK
              have HK := Lib.hid hK
              clear hK he hi hBW
              have ccR0W := R0W.out
              have ccR1W := R1W.out
              have ccR2W := R2W.out
              go_simp
              exact HK.out _ _ rfl (Below.refl _ _)
            · simp only [getElem?_toArray, getElem?_cons_zero, getElem?_cons_succ, Option.some.injEq] at ho
              subst ho
              rw [if_pos (by rfl)]
              simp only [put_someT, setIfInBounds_toArray, set_cons_zero, set_cons_succ] at hK
              have HK := Lib.hid hK
              clear hK he hi hBW
              go_simp
              exact HK.out _ _ (by first | rfl | simp [co14]) (Below.refl _ _)
            · simp only [getElem?_toArray, getElem?_cons_zero, getElem?_cons_succ, Option.some.injEq] at ho
              subst ho
              have e3 : vs 3 = .pointer (some ⟨g, 1, none⟩) := (he ⟨3, .data⟩ (by simp) rfl : co14 g h q r d 3 (vs 3) W)
              rw [e3] at hK ⊢
              rw [if_pos (by rfl)]
              simp only [put_someT, setIfInBounds_toArray, set_cons_zero, set_cons_succ] at hK
              have HK := Lib.hid hK
              clear hK he hi hBW
              have ccX1W := X1W.out
              have ccX2W := X2W.out
              have ccX3W := X3W.out
              go_simp
              exact HK.out _ _ rfl (Below.refl _ _)
            · simp only [getElem?_toArray, getElem?_cons_zero, getElem?_cons_succ, Option.some.injEq] at ho
              subst ho
              have e2 : vs 2 = .agg #[.int .i64 r.epoch, .string r.ver, .string r.rel] := (he ⟨2, .data⟩ (by simp) rfl : co14 g h q r d 2 (vs 2) W)
              rw [e2] at hK ⊢
              have e4 : vs 4 = .agg #[.int .i64 q.epoch, .string q.ver, .string q.rel] := (he ⟨4, .data⟩ (by simp) rfl : co14 g h q r d 4 (vs 4) W)
              rw [e4] at hK ⊢
              rw [if_pos (by rfl)]
              simp only [put_someT, setIfInBounds_toArray, set_cons_zero, set_cons_succ] at hK
              have HK := Lib.hid hK
              clear hK he hi hBW
              have CMW := CMR.out W
              go_simp
              go_at_call 132
              refine CMW.mono ?_
              rintro en w9 ⟨rfl, h⟩
              go_simp
              exact HK.out _ _ rfl h
          · intro vs W5 hall hBW
            have e5 : vs 5 = .int .i64 d := (hall 5 (by decide) : co14 g h q r d 5 (vs 5) W5)
            simp only [take_succ_cons, take_zero, List.drop_succ_cons, List.drop_zero, fillV, put_someT, put_noneC, setIfInBounds_toArray, set_cons_zero, set_cons_succ]
            rw [e5]
            have HK5 := Lib.hid ((hBW.block D HKL.out).trans HK.out)
            have B5 := Lib.hid (GB.out.old.trans (hBW.mono GB.out.old.size))
            generalize vs 0 = s0
            generalize vs 1 = s1
            generalize vs 2 = s2
            generalize vs 3 = s3
            generalize vs 4 = s4
            clear hall hBW e5 BC R0 R1 R2 oc bc
            by_cases d1 : d < 0
            · have DD := Lib.hid d1
              go_wp2_with fail
              gi_wp2_with fail
              refine ⟨by simp, .inl ⟨_, _, rfl, run_takeDeferred HK5.out, ?_⟩⟩
              have MP := (B5.out).trans (belowK_b (n₀ := w.heap.size) (w := W4) (by have := Z4.out; have := Z3.out; omega) _ D _ (.deferred none) HD.out HK5.out rfl rfl)
              exact ⟨.int .u8 2, by simp [results, Tryz.results85, go_sem], by rw [CV2.out, if_pos DD.out], MP⟩
            · by_cases d2 : 0 < d
              · have DD := Lib.hid (And.intro d1 d2)
                go_wp2_with fail
                gi_wp2_with fail
                refine ⟨by simp, .inl ⟨_, _, rfl, run_takeDeferred HK5.out, ?_⟩⟩
                have MP := (B5.out).trans (belowK_b (n₀ := w.heap.size) (w := W4) (by have := Z4.out; have := Z3.out; omega) _ D _ (.deferred none) HD.out HK5.out rfl rfl)
                exact ⟨.int .u8 3, by simp [results, Tryz.results85, go_sem], by rw [CV2.out, if_neg (show ¬ d < 0 by have := DD.out; omega), if_pos DD.out.2], MP⟩
              · have DD := Lib.hid (And.intro d1 d2)
                go_wp2_with fail
                gi_wp2_with fail
                refine ⟨by simp, .inl ⟨_, _, rfl, run_takeDeferred HK5.out, ?_⟩⟩
                have MP := (B5.out).trans (belowK_b (n₀ := w.heap.size) (w := W4) (by have := Z4.out; have := Z3.out; omega) _ D _ (.deferred none) HD.out HK5.out rfl rfl)
                exact ⟨.int .u8 4, by simp [results, Tryz.results85, go_sem], by rw [CV2.out, if_neg (show ¬ d < 0 by have := DD.out; omega), if_neg (show ¬ 0 < d by have := DD.out; omega)], MP⟩
      case stop =>
        rintro D c pre W hD hpre h2 hK
        exact h2.elim
end Go.Proofs.YteobmfpbgnmffaaGreatDoor
