/- StOf -/
import Derived.Test.YteobmfpbgnmffaaGreatDoorStepsNamesRowG41
import Derived.OwnWalkIn
set_option linter.unusedSimpArgs false
set_option linter.unusedVariables false
open List (getElem?_toArray getElem?_cons_zero getElem?_cons_succ setIfInBounds_toArray set_cons_zero set_cons_succ take_succ_cons take_zero)
/- Walk: steps.Of: the steps from what is installed to a state. -/



namespace Go.Proofs.YteobmfpbgnmffaaGreatDoor
open Go.RowKit Go.Shelf
set_option linter.unusedVariables false
attribute [local go_sem] Oper.semAt_some
attribute [local go_sem ↓ high] asked_wide

theorem OfAt.start {w W : World} {P cb rb gb n : Nat} {f : Nat → Bool} (hb : Below w.heap.size w W) (h2 : W.cell? ⟨w.heap.size, 0, none⟩ = some (.pointer (some ⟨P, 0, none⟩))) (c0 : W.cell? ⟨cb, 0, none⟩ = some (.pointer (some ⟨P, 0, none⟩))) (c1 : W.cell? ⟨cb, 1, none⟩ = some (.slice (some ⟨rb, 0, none⟩) n n)) (g0 : W.cell? ⟨gb, 0, none⟩ = some (.pointer none)) (hr : BRow rb n f W) (hcb : w.heap.size < cb) (hrb : w.heap.size < rb) (hgb : w.heap.size < gb) (hrl : rb < W.heap.size) :
    OfAt w P cb rb gb W.heap.size n f (W.setCell ⟨gb, 0, none⟩ (.pointer (some ⟨cb, 0, none⟩))) := by
  have n1 : cb ≠ gb := fun e => by rw [e, g0] at c0; cases c0
  have ne : ∀ b j, b ≠ gb → (⟨gb, 0, none⟩ : Addr) ≠ ⟨b, j, none⟩ := fun b j hb e => by simp only [Addr.mk.injEq] at e; exact hb e.1.symm
  exact ⟨hb.setCell (p := ⟨gb, 0, none⟩) (by show w.heap.size ≤ gb; omega) _, (sc_other (ne _ _ (by omega))).trans h2, (sc_other (ne _ _ n1)).trans c0, (sc_other (ne _ _ n1)).trans c1, sc_same g0, fun i hi => by
    have n2 : rb ≠ gb := fun e => by have := (hr 0 (by omega)).1; rw [e, g0] at this; cases this
    exact ⟨(sc_other (ne _ _ n2)).trans (hr i hi).1, (World.frozen?_setCell _ _ _ _).trans (hr i hi).2⟩, hcb, hrb, hgb, World.block_lt_of_cell? W _ c0, hrl, World.block_lt_of_cell? W _ g0, by simp [World.setCell]⟩
def OfI {inb : List Bool} {I0 n : Nat} (L : List Pr) (w : World) (P cb rb gb hz ob base : Nat) (f : Nat → Bool) (pre : List (ChgN inb I0 0 n)) (W : World) : Prop := OfAt w P cb rb gb hz n f W ∧ OutAt base ob (pre.map fun y => (kindV L inb I0 y.1, (y.1 : Int))) W
def OfX {inb : List Bool} {I0 n : Nat} (c : Code) (pre : List (ChgN inb I0 0 n)) (W : World) : Prop := False
theorem OfAt.own {w : World} {P cb rb gb hz n B : Nat} {f : Nat → Bool} {β : Type} (hB : hz ≤ B) : OwnFrom B (fun (_ : β) W => OfAt w P cb rb gb hz n f W) := fun s A C row hs hg hr =>
  hs.past ((Below.refl hz A).grown hg hs.hz.2.2.2.2.2.2 (fun j e => Nat.le_trans hB (hr j e).1))
theorem OutAt.own {β : Type} {base ob B : Nat} (f : β → List (Int × Int)) : OwnFrom B (fun (s : β) W => OutAt base ob (f s) W) := fun s A C row hs hg hr => by
  obtain ⟨v, h1, h2⟩ := hs.row
  refine ⟨⟨v, cell_kept h1 hg fun r e => (hr r e).2, ?_⟩, (frozen_kept h1 hg fun r e => (hr r e).2).trans hs.fz, hs.hz.1, Nat.le_trans hs.hz.2 hg.size⟩
  refine World.ownsRow.kept h2 hg ?_
  cases e : v.ownBlock with
  | none => exact .inl rfl
  | some g =>
    right
    intro e2
    obtain ⟨_, o, ho, hc⟩ := hr g e2.symm
    rcases h2.2 with ⟨rfl, _⟩ | ⟨g2, cap, cur, rfl, _, hgb, _⟩
    · simp [Value.ownBlock] at e
    · obtain rfl : g2 = g := by simpa [Value.ownBlock] using e
      rw [hgb] at ho; cases ho; cases hc
theorem own_put {α : Type} {enc : α → List Value} {size base : Nat} {e : TypeId} {v : Value} {D : List α} {W : World} (h2 : Own enc size base e v D W) {l : Nat} {o : Obj} (hl : W.heap[l]? = some o) (hc : o.isCells = false) (o' : Obj) : Own enc size base e v D (W.putObj l o') := by
  refine World.ownsRow.kept h2 (grownBy_putObj' W l o') ?_
  cases e : v.ownBlock with
  | none => exact .inl rfl
  | some g =>
    right
    intro e2
    cases e2
    rcases h2.2 with ⟨rfl, _⟩ | ⟨g2, cap, cur, rfl, _, hgb, _⟩
    · simp [Value.ownBlock] at e
    · obtain rfl : g2 = l := by simpa [Value.ownBlock] using e
      rw [hgb] at hl; cases hl; cases hc
theorem OfI.own {inb : List Bool} {I0 n : Nat} {L : List Pr} {w : World} {P cb rb gb hz ob base B : Nat} {f : Nat → Bool} (hB : hz ≤ B) : OwnFrom B (OfI (inb := inb) (I0 := I0) (n := n) L w P cb rb gb hz ob base f) := OwnFrom.and (OfAt.own hB) (OutAt.own _)
theorem OfX.own {inb : List Bool} {I0 n : Nat} {B : Nat} (c : Code) : OwnFrom B (OfX (inb := inb) (I0 := I0) (n := n) c) := fun s A C row hs hg hr => hs
theorem infoStep : (Tryz.prog.info? 61).map (fun i => (i.zero, i.size, i.bytes)) = some (some (.agg #[.int .u8 0, .int .i64 0]), 2, 16) := by kernel_rfl
def ofA (P n s0 : Nat) (i : Nat) (v : Value) (W : World) : Prop := match i with
  | 0 => v = .pointer (some ⟨P, 0, none⟩)
  | 1 => v = .pointer (some ⟨P, 0, none⟩)
  | 2 => v = .int .i64 (n : Int)
  | 3 => ∃ rb, v = .slice (some ⟨rb, 0, none⟩) n n ∧ BRow rb n (fun _ => false) W ∧ s0 < rb ∧ rb < W.heap.size
  | 4 => ∃ rb, v = .agg #[.pointer (some ⟨P, 0, none⟩), .slice (some ⟨rb, 0, none⟩) n n] ∧ BRow rb n (fun _ => false) W ∧ s0 < rb ∧ rb < W.heap.size
  | 5 => ∃ cb rb, v = .pointer (some ⟨cb, 0, none⟩) ∧ W.cell? ⟨cb, 0, none⟩ = some (.pointer (some ⟨P, 0, none⟩)) ∧ W.cell? ⟨cb, 1, none⟩ = some (.slice (some ⟨rb, 0, none⟩) n n) ∧ s0 < cb ∧ BRow rb n (fun _ => false) W ∧ s0 < rb ∧ rb < W.heap.size
  | 6 => ∃ gb, v = .pointer (some ⟨gb, 0, none⟩) ∧ W.cell? ⟨gb, 0, none⟩ = some (.pointer none) ∧ W.frozen? ⟨gb, 0, none⟩ = false ∧ s0 < gb
  | _ => False
theorem ofA_mono (P n s0 : Nat) : ∀ i v w w', ofA P n s0 i v w → Below w.heap.size w w' → ofA P n s0 i v w' := by
  intro i v w w' h hb
  match i, h with
  | 0, h => exact h
  | 1, h => exact h
  | 2, h => exact h
  | 3, h => exact h.elim fun rb h => ⟨rb, h.1, h.2.1.then hb, h.2.2.1, Nat.lt_of_lt_of_le h.2.2.2 hb.size⟩
  | 4, h => exact h.elim fun rb h => ⟨rb, h.1, h.2.1.then hb, h.2.2.1, Nat.lt_of_lt_of_le h.2.2.2 hb.size⟩
  | 5, h => obtain ⟨cb, rb, e, c0, c1, hc, hr, h1, h2⟩ := h; exact ⟨cb, rb, e, (hb.cell (World.block_lt_of_cell? w _ c0)).trans c0, (hb.cell (World.block_lt_of_cell? w _ c1)).trans c1, hc, hr.then hb, h1, Nat.lt_of_lt_of_le h2 hb.size⟩
  | 6, h => obtain ⟨gb, e, c0, f0, hg⟩ := h; exact ⟨gb, e, (hb.cell (World.block_lt_of_cell? w _ c0)).trans c0, (hb.frozen (World.block_lt_of_cell? w _ c0)).trans f0, hg⟩
  | (i + 7), h => exact h.elim
def ofB (cb P n : Nat) (i : Nat) (v : Value) (W : World) : Prop := match i with
  | 0 => v = .pointer (some ⟨cb, 0, none⟩)
  | 1 => v = .pointer (some ⟨P, 0, none⟩)
  | 2 => v = .int .i64 (n : Int)
  | _ => False
theorem ofB_mono (cb P n : Nat) : ∀ i v w w', ofB cb P n i v w → Below w.heap.size w w' → ofB cb P n i v w' := by
  intro i v w w' h hb
  match i, h with
  | 0, h => exact h
  | 1, h => exact h
  | 2, h => exact h
  | (i + 3), h => exact h.elim
def ofG (cb k : Nat) (kd : Int) (v0 : Value) (i : Nat) (v : Value) (W : World) : Prop := match i with
  | 0 => v = v0
  | 1 => v = .func (.func 87) #[.pointer (some ⟨cb, 0, none⟩)] #[]
  | 2 => v = .int .i64 (k : Int)
  | 3 => v = .int .u8 kd
  | 4 => v = .int .i64 (k : Int)
  | 5 => v = .agg #[.int .u8 kd, .int .i64 (k : Int)]
  | 6 => ∃ h, v = .slice (some ⟨h, 0, none⟩) 1 1 ∧ W.cell? ⟨h, 0, none⟩ = some (.int .u8 kd) ∧ W.cell? ⟨h, 1, none⟩ = some (.int .i64 (k : Int))
  | _ => False
theorem ofG_mono (cb k : Nat) (kd : Int) (v0 : Value) : ∀ i v w w', ofG cb k kd v0 i v w → Below w.heap.size w w' → ofG cb k kd v0 i v w' := by
  intro i v w w' h hb
  match i, h with
  | 0, h => exact h
  | 1, h => exact h
  | 2, h => exact h
  | 3, h => exact h
  | 4, h => exact h
  | 5, h => exact h
  | 6, h => exact h.elim fun q h => ⟨q, h.1, (hb.cell (World.block_lt_of_cell? w _ h.2.1)).trans h.2.1, (hb.cell (World.block_lt_of_cell? w _ h.2.2)).trans h.2.2⟩
  | (i + 7), h => exact h.elim
def ofC (cb k : Nat) (kd : Int) (v0 : Value) (i : Nat) (v : Value) (W : World) : Prop := match i with
  | 0 => v = v0
  | 1 => v = .func (.func 85) #[.pointer (some ⟨cb, 0, none⟩)] #[]
  | 2 => v = .int .i64 (k : Int)
  | 3 => v = .int .u8 kd
  | 4 => v = .int .i64 (k : Int)
  | 5 => v = .agg #[.int .u8 kd, .int .i64 (k : Int)]
  | 6 => ∃ h, v = .slice (some ⟨h, 0, none⟩) 1 1 ∧ W.cell? ⟨h, 0, none⟩ = some (.int .u8 kd) ∧ W.cell? ⟨h, 1, none⟩ = some (.int .i64 (k : Int))
  | _ => False
theorem ofC_mono (cb k : Nat) (kd : Int) (v0 : Value) : ∀ i v w w', ofC cb k kd v0 i v w → Below w.heap.size w w' → ofC cb k kd v0 i v w' := by
  intro i v w w' h hb
  match i, h with
  | 0, h => exact h
  | 1, h => exact h
  | 2, h => exact h
  | 3, h => exact h
  | 4, h => exact h
  | 5, h => exact h
  | 6, h => exact h.elim fun q h => ⟨q, h.1, (hb.cell (World.block_lt_of_cell? w _ h.2.1)).trans h.2.1, (hb.cell (World.block_lt_of_cell? w _ h.2.2)).trans h.2.2⟩
  | (i + 7), h => exact h.elim
set_option maxRecDepth 100000 in
set_option maxHeartbeats 16000000 in
theorem stof_any {P : Nat} {I0 : Nat} {L : List Pr} {w : World} (hp : Pool P (I0 : Int) L w) (A : Option Addr) (c : Nat) (S : List Int) (hS : Rd encI 1 w.heap.size A c S w) (hSl : S.length ≤ 1000000) (hn : L.length ≤ 1000000) (hI0 : I0 ≤ L.length) : Calls Tryz.prog 25 #[.pointer (some ⟨P, 0, none⟩), .slice A S.length c] w fun e w' => ∃ v, e = .returned (.tuple #[v, .int .i64 (if badS L.length S then 5 else 0)]) ∧ Own encSt 2 w.heap.size 61 v (stepsV L I0 S) w' ∧ Below w.heap.size w w' := by
  obtain ⟨er, her⟩ : ∃ er : Int, er = if badS L.length S then 5 else 0 := ⟨_, rfl⟩
  rw [← her]
  have HER := Lib.hid her
  clear her
  obtain ⟨i0, hi, hz0, hz1, hz2⟩ := info_parts infoStep
  have HP := Lib.hid hp
  have HS := Lib.hid hS
  obtain ⟨n, hn9⟩ : ∃ n, n = L.length := ⟨_, rfl⟩
  have HN9 := Lib.hid hn9
  have hn1 : n ≤ 1000000 := by omega
  have MK := Lib.hid (make_bools n hn1)
  obtain ⟨m, hm9⟩ : ∃ m, m = S.length := ⟨_, rfl⟩
  have HM9 := Lib.hid hm9
  have hm1 : m ≤ 1000000 := by omega
  rw [← hm9]
  clear hp hS hn9 hm9
  refine (callsIn_wide (n := 8)).1 ?_
  refine callsIn_of_wp_marks Tryz.func25 rfl trivial ?_ rfl
  simp only [Tryz.ntmps25, List.size_toArray, List.length_cons, List.length_nil, Nat.reduceAdd, Nat.reduceSub, Array.replicate_succ, Array.replicate_zero, List.push_toArray, List.append_toArray, List.nil_append, List.cons_append]
  gi_wp2_with fail
  obtain ⟨V, hV⟩ : ∃ V, V = w.alloc (.cells #[.pointer (some ⟨P, 0, none⟩)] 45) := ⟨_, rfl⟩
  rw [← hV]
  have b1 : Below w.heap.size w V := by rw [hV]; exact (Below.refl _ w).alloc (Nat.le_refl _) _
  have zV : V.heap.size = w.heap.size + 1 := by rw [hV]; simp
  have C2 := Lib.hid (show V.cell? ⟨w.heap.size, 0, none⟩ = some (.pointer (some ⟨P, 0, none⟩)) by rw [hV]; simp [go_sem])
  have B1 := Lib.hid b1
  have ZV := Lib.hid zV
  clear hV b1 zV
  refine wpIn_wide.2 ?_
  refine wp_region_tail (PP := ofA P n w.heap.size) 7 rfl (by kernel_rfl) (by kernel_rfl) (by decide) (by decide) (ofA_mono P n w.heap.size) (fun _ => undef) (by simp [fillV, put_someT, setIfInBounds_toArray, set_cons_zero, set_cons_succ]) ?_ ?_
  · intro i o vs W hi ho he hBW K hK
    simp only [take_succ_cons, take_zero, fillV, put_someT, setIfInBounds_toArray, set_cons_zero, set_cons_succ] at hK ⊢
    have SZW := Lib.hid (show w.heap.size < W.heap.size by have := hBW.size; have := ZV.out; omega)
    have C2W := Lib.hid ((hBW.cell (p := ⟨w.heap.size, 0, none⟩) (by have := ZV.out; show w.heap.size < V.heap.size; omega)).trans C2.out)
    have PLW := Lib.hid (HP.out.then (B1.out.trans (hBW.mono B1.out.size)))
    obtain rfl | rfl | rfl | rfl | rfl | rfl | rfl := (show i = 0 ∨ i = 1 ∨ i = 2 ∨ i = 3 ∨ i = 4 ∨ i = 5 ∨ i = 6 by exact (by have : i < 7 := hi; omega))
    · simp only [getElem?_toArray, getElem?_cons_zero, getElem?_cons_succ, Option.some.injEq] at ho
      subst ho
      rw [if_pos (by rfl)]
      simp only [put_someT, setIfInBounds_toArray, set_cons_zero, set_cons_succ] at hK
      have HK := Lib.hid hK
      clear hK he hi hBW
      have ccC2W := C2W.out
      go_simp
      exact HK.out _ _ rfl (Below.refl _ _)
    · simp only [getElem?_toArray, getElem?_cons_zero, getElem?_cons_succ, Option.some.injEq] at ho
      subst ho
      rw [if_pos (by rfl)]
      simp only [put_someT, setIfInBounds_toArray, set_cons_zero, set_cons_succ] at hK
      have HK := Lib.hid hK
      clear hK he hi hBW
      have ccC2W := C2W.out
      go_simp
      exact HK.out _ _ rfl (Below.refl _ _)
    · simp only [getElem?_toArray, getElem?_cons_zero, getElem?_cons_succ, Option.some.injEq] at ho
      subst ho
      have e1 : vs 1 = .pointer (some ⟨P, 0, none⟩) := (he ⟨1, .data⟩ (by simp) rfl : ofA P n w.heap.size 1 (vs 1) W)
      rw [e1] at hK ⊢
      rw [if_pos (by rfl)]
      simp only [put_someT, setIfInBounds_toArray, set_cons_zero, set_cons_succ] at hK
      have HK := Lib.hid hK
      clear hK he hi hBW
      have CNT := poolcount_any (PLW.out).at_
      rw [← HN9.out] at CNT
      go_simp
      go_at_call 61
      refine CNT.mono ?_
      rintro en w9 ⟨rfl, h⟩
      go_simp
      exact HK.out _ _ rfl h
    · simp only [getElem?_toArray, getElem?_cons_zero, getElem?_cons_succ, Option.some.injEq] at ho
      subst ho
      have e2 : vs 2 = .int .i64 (n : Int) := (he ⟨2, .data⟩ (by simp) rfl : ofA P n w.heap.size 2 (vs 2) W)
      rw [e2] at hK ⊢
      rw [if_pos (by rfl)]
      simp only [put_someT, setIfInBounds_toArray, set_cons_zero, set_cons_succ] at hK
      have HK := Lib.hid hK
      clear hK he hi hBW
      have mk := MK.out W
      go_simp
      exact HK.out _ _ ⟨_, rfl, BRow.made n W _, SZW.out, by simp⟩ ((Below.refl _ W).alloc (Nat.le_refl _) _)
    · simp only [getElem?_toArray, getElem?_cons_zero, getElem?_cons_succ, Option.some.injEq] at ho
      subst ho
      have e0 : vs 0 = .pointer (some ⟨P, 0, none⟩) := (he ⟨0, .data⟩ (by simp) rfl : ofA P n w.heap.size 0 (vs 0) W)
      rw [e0] at hK ⊢
      obtain ⟨rb, e3, hr3, s3, t3⟩ := (he ⟨3, .data⟩ (by simp) rfl : ofA P n w.heap.size 3 (vs 3) W)
      rw [e3] at hK ⊢
      rw [if_pos (by rfl)]
      simp only [put_someT, setIfInBounds_toArray, set_cons_zero, set_cons_succ] at hK
      have HK := Lib.hid hK
      clear hK he hi hBW
      go_simp
      exact HK.out _ _ ⟨rb, rfl, hr3, s3, t3⟩ (Below.refl _ _)
    · simp only [getElem?_toArray, getElem?_cons_zero, getElem?_cons_succ, Option.some.injEq] at ho
      subst ho
      obtain ⟨rb, e4, hr4, s4, t4⟩ := (he ⟨4, .data⟩ (by simp) rfl : ofA P n w.heap.size 4 (vs 4) W)
      rw [e4] at hK ⊢
      rw [if_pos (by rfl)]
      simp only [put_someT, setIfInBounds_toArray, set_cons_zero, set_cons_succ] at hK
      have HK := Lib.hid hK
      clear hK he hi hBW
      have HR4 := Lib.hid hr4
      clear hr4
      go_simp
      exact HK.out _ _ ⟨W.heap.size, rb, rfl, by simp [go_sem], by simp [go_sem], SZW.out, HR4.out.then ((Below.refl _ W).alloc (Nat.le_refl _) _), s4, by simp; omega⟩ ((Below.refl _ W).alloc (Nat.le_refl _) _)
    · simp only [getElem?_toArray, getElem?_cons_zero, getElem?_cons_succ, Option.some.injEq] at ho
      subst ho
      rw [if_pos (by rfl)]
      simp only [put_someT, setIfInBounds_toArray, set_cons_zero, set_cons_succ] at hK
      have HK := Lib.hid hK
      clear hK he hi hBW
      go_simp
      exact HK.out _ _ ⟨W.heap.size, rfl, by simp [go_sem], by simp [go_sem], SZW.out⟩ ((Below.refl _ W).alloc (Nat.le_refl _) _)
  · intro vs W hall hBW
    obtain ⟨cb, rb, e5, c0, c1, hcb, hrow, hrb, hrl⟩ : ofA P n w.heap.size 5 (vs 5) W := hall 5 (by decide)
    obtain ⟨gb, e6, g0, gf, hgb⟩ : ofA P n w.heap.size 6 (vs 6) W := hall 6 (by decide)
    simp only [take_succ_cons, take_zero, List.drop_succ_cons, List.drop_zero, fillV, put_someT, put_noneC, setIfInBounds_toArray, set_cons_zero, set_cons_succ]
    rw [e5, e6]
    generalize vs 0 = q0
    generalize vs 1 = q1
    generalize vs 2 = q2
    generalize vs 3 = q3
    generalize vs 4 = q4
    have BW := Lib.hid (B1.out.trans (hBW.mono B1.out.size))
    have C2W := Lib.hid ((hBW.cell (p := ⟨w.heap.size, 0, none⟩) (by have := ZV.out; show w.heap.size < V.heap.size; omega)).trans C2.out)
    have HROW := Lib.hid hrow
    have C0 := Lib.hid c0
    have C1 := Lib.hid c1
    clear hall hBW e5 e6 hrow c0 c1 C2 B1
    go_wp2_with fail
    have OF := Lib.hid (OfAt.start BW.out C2W.out C0.out C1.out g0 HROW.out hcb hrb hgb hrl)
    generalize W.setCell ⟨gb, 0, none⟩ (.pointer (some ⟨cb, 0, none⟩)) = W1 at *
    generalize W.heap.size = hz at *
    clear MK BW C2W HROW C0 C1 g0 gf ZV hcb hrb hrl hgb
    refine wpIn_wide.2 ?_
    go_wp2_with fail
    go_loopw [22] (fun iv wr => ∃ j : Nat, j ≤ m ∧ iv = .int .i64 (j : Int) ∧ OfAt w P cb rb gb hz n (St.inS (S.take j)) wr ∧ Hid (∀ i (hi : i < S.length), i < j → 0 ≤ S[i] ∧ S[i] < (n : Int))) (fun iv _ => m - (intOf iv).toNat)
    case atStart => exact ⟨0, by omega, rfl, OF.out, Lib.hid (by intro i hi h; omega)⟩
    case round =>
      obtain ⟨j, hj, rfl, hO, HR⟩ := hrel
      rename World => wr
      have OA := Lib.hid hO
      clear OF
      by_cases hlt : j < m
      · have hjl : j < S.length := by have := HM9.out; omega
        obtain ⟨b, o, hA, hb, e0⟩ := ((HS.out.below hO.old).more hO.old.size).int_at hjl
        have HBAD := Lib.hid (fun (h : ¬ (0 ≤ S[j] ∧ S[j] < (n : Int))) => show badS L.length S = true by
          rw [← Bool.not_eq_false, badS_no]
          intro hh
          have := hh S[j] (List.getElem_mem hjl)
          have := HN9.out
          exact h (by omega))
        have HNX := Lib.hid (fun (h : 0 ≤ S[j] ∧ S[j] < (n : Int)) => show ∀ i (hi : i < S.length), i < j + 1 → 0 ≤ S[i] ∧ S[i] < (n : Int) from fun i hi hij => by
          by_cases e : i = j
          · subst e; exact h
          · exact HR.out i hi (by omega))
        have HIS := Lib.hid (show ∀ k : Nat, St.inS (S.take (j + 1)) k = (St.inS (S.take j) k || (S[j] == (k : Int))) from fun k => by rw [List.take_succ_eq_append_getElem hjl]; unfold St.inS; rw [List.any_append]; simp)
        subst hA
        generalize S[j] = z at *
        have i0' : (0 : Int) ≤ (j : Int) := by omega
        have i1 : (j : Int) < (m : Int) := by omega
        have p2 := hO.p2
        clear hO
        by_cases hz0 : z < 0
        · have HE := Lib.hid (HBAD.out (by omega))
          go_wp2_with fail
          exact ⟨.tuple #[.slice none 0 0, .int .i64 5], by simp [results, Tryz.results25, go_sem], _, by rw [HER.out, HE.out]; rfl, by rw [stepsV_bad HE.out]; exact Own.nil_ _ _ _, OA.out.old⟩
        · have CNT := poolcount_any (HP.out.then OA.out.old).at_
          rw [← HN9.out] at CNT
          have C0 := OA.out.c0
          have c1 := OA.out.c1
          have g0 := OA.out.g0
          have HCN := Lib.hid CNT
          clear CNT
          go_wp2_with fail
          go_at_call 61
          refine HCN.out.mono ?_
          rintro e w9 ⟨rfl, h9⟩
          have O9 := Lib.hid (OA.out.then h9)
          clear h9 HCN e0 p2 C0 c1 g0
          by_cases hzn : z < (n : Int)
          · obtain ⟨k, rfl⟩ : ∃ k : Nat, z = (k : Int) := ⟨z.toNat, by omega⟩
            have hk : k < n := by omega
            have HNX2 := Lib.hid (HNX.out (by omega))
            have c0 := O9.out.c0
            have c1 := O9.out.c1
            have g0 := O9.out.g0
            obtain ⟨r0, rf⟩ := O9.out.row k hk
            have OS := Lib.hid ((O9.out.set hk).congr (f' := St.inS (S.take (j + 1))) fun i hi => by
              rw [HIS.out]
              by_cases e : i = k
              · subst e; simp
              · rw [if_neg e, show ((k : Int) == (i : Int)) = false from beq_eq_false_iff_ne.2 (by omega), Bool.or_false])
            clear HBAD HNX HIS
            go_wp2_with fail
            go_roundw
            case rel => exact ⟨j + 1, by omega, by go_num, OS.out, HNX2.out⟩
            case measure => simp [intOf]; omega
          · have HE := Lib.hid (HBAD.out (by omega))
            go_wp2_with fail
            exact ⟨.tuple #[.slice none 0 0, .int .i64 5], by simp [results, Tryz.results25, go_sem], _, by rw [HER.out, HE.out]; rfl, by rw [stepsV_bad HE.out]; exact Own.nil_ _ _ _, O9.out.old⟩
      · obtain rfl : j = m := by omega
        have j1 : ¬ (j : Int) < (j : Int) := by omega
        have HBS := Lib.hid (show badS L.length S = false from badS_no.2 fun z hz => by
          obtain ⟨i, hi, rfl⟩ := List.getElem_of_mem hz
          have := HR.out i hi (by have := HM9.out; omega)
          have := HN9.out
          omega)
        have HIB := Lib.hid (show ∀ i, i < n → St.inS S i = (inbOf n S).getD i false from fun i hi => (inb_at hi).symm)
        have OS := Lib.hid (OA.out.congr (f' := St.inS S) fun i hi => by rw [List.take_of_length_le (by have := HM9.out; omega)])
        clear OA HR hO
        go_wp2_with fail
        have OB := Lib.hid (OS.out.then ((Below.refl _ wr).alloc (Nat.le_refl _) (.cells #[.slice none 0 0] 43)))
        have OC := Lib.hid (show (wr.alloc (.cells #[.slice none 0 0] 43)).cell? ⟨wr.heap.size, 0, none⟩ = some (.slice none 0 0) ∧ (wr.alloc (.cells #[.slice none 0 0] 43)).frozen? ⟨wr.heap.size, 0, none⟩ = false by simp [go_sem])
        have HZO := Lib.hid (show hz ≤ wr.heap.size from OS.out.hz.2.2.2.2.2.2)
        have OZ := Lib.hid (show (wr.alloc (.cells #[.slice none 0 0] 43)).heap.size = wr.heap.size + 1 by simp)
        generalize wr.alloc (.cells #[.slice none 0 0] 43) = V2 at *
        generalize wr.heap.size = ob at *
        clear OS
        refine wp_region_tail (PP := ofB cb P n) 3 rfl (by kernel_rfl) (by kernel_rfl) (by decide) (by decide) (ofB_mono cb P n) (fun _ => undef) (by simp [fillV, put_someT, setIfInBounds_toArray, set_cons_zero, set_cons_succ]) ?_ ?_
        · intro i o vs W hi ho he hBW K hK
          simp only [take_succ_cons, take_zero, fillV, put_someT, setIfInBounds_toArray, set_cons_zero, set_cons_succ] at hK ⊢
          have OWW := Lib.hid (OB.out.then hBW)
          have G0W := Lib.hid OWW.out.g0
          have P2W := Lib.hid OWW.out.p2
          have PLW := Lib.hid (HP.out.then OWW.out.old)
          obtain rfl | rfl | rfl := (show i = 0 ∨ i = 1 ∨ i = 2 by exact (by have : i < 3 := hi; omega))
          · simp only [getElem?_toArray, getElem?_cons_zero, getElem?_cons_succ, Option.some.injEq] at ho
            subst ho
            rw [if_pos (by rfl)]
            simp only [put_someT, setIfInBounds_toArray, set_cons_zero, set_cons_succ] at hK
            have HK := Lib.hid hK
            clear hK he hi hBW
            have ccG0W := G0W.out
            go_simp
            exact HK.out _ _ rfl (Below.refl _ _)
          · simp only [getElem?_toArray, getElem?_cons_zero, getElem?_cons_succ, Option.some.injEq] at ho
            subst ho
            rw [if_pos (by rfl)]
            simp only [put_someT, setIfInBounds_toArray, set_cons_zero, set_cons_succ] at hK
            have HK := Lib.hid hK
            clear hK he hi hBW
            have ccP2W := P2W.out
            go_simp
            exact HK.out _ _ rfl (Below.refl _ _)
          · simp only [getElem?_toArray, getElem?_cons_zero, getElem?_cons_succ, Option.some.injEq] at ho
            subst ho
            have e1 : vs 1 = .pointer (some ⟨P, 0, none⟩) := (he ⟨1, .data⟩ (by simp) rfl : ofB cb P n 1 (vs 1) W)
            rw [e1] at hK ⊢
            rw [if_pos (by rfl)]
            simp only [put_someT, setIfInBounds_toArray, set_cons_zero, set_cons_succ] at hK
            have HK := Lib.hid hK
            clear hK he hi hBW
            have CNT := poolcount_any (PLW.out).at_
            rw [← HN9.out] at CNT
            go_simp
            go_at_call 61
            refine CNT.mono ?_
            rintro en w9 ⟨rfl, h⟩
            go_simp
            exact HK.out _ _ rfl h
        · intro vs W3 hall hBW
          have e0 : vs 0 = .pointer (some ⟨cb, 0, none⟩) := (hall 0 (by decide) : ofB cb P n 0 (vs 0) W3)
          have e2 : vs 2 = .int .i64 (n : Int) := (hall 2 (by decide) : ofB cb P n 2 (vs 2) W3)
          simp only [take_succ_cons, take_zero, List.drop_succ_cons, List.drop_zero, fillV, put_someT, put_noneC, setIfInBounds_toArray, set_cons_zero, set_cons_succ]
          rw [e0, e2]
          generalize vs 1 = q9
          have O3 := Lib.hid (OB.out.then hBW)
          have OC3 := Lib.hid (show W3.cell? ⟨ob, 0, none⟩ = some (.slice none 0 0) ∧ W3.frozen? ⟨ob, 0, none⟩ = false from ⟨(hBW.cell (p := ⟨ob, 0, none⟩) (by have := OZ.out; show ob < V2.heap.size; omega)).trans OC.out.1, (hBW.frozen (p := ⟨ob, 0, none⟩) (by have := OZ.out; show ob < V2.heap.size; omega)).trans OC.out.2⟩)
          have Z3 := Lib.hid (show ob < W3.heap.size by have := hBW.size; have := OZ.out; omega)
          clear hall hBW e0 e2 OB OC
          go_wp2_with fail
          go_at_call 84
          refine (stall_any cb ((0 : Nat) : Int) (n : Int) W3).mono ?_
          rintro e W4 ⟨rfl, f1, f2, f3, hb4, hz4⟩
          have O4 := Lib.hid (O3.out.then hb4)
          have F1 := Lib.hid f1
          have F2 := Lib.hid f2
          have F3 := Lib.hid f3
          have Z4 := Lib.hid hz4
          have T4 := Lib.hid (show OutAt W4.heap.size ob [] W4 from ⟨⟨_, (hb4.cell (p := ⟨ob, 0, none⟩) Z3.out).trans OC3.out.1, Own.nil_ _ _ _⟩, (hb4.frozen (p := ⟨ob, 0, none⟩) Z3.out).trans OC3.out.2, by have := Z3.out; omega, Nat.le_refl _⟩)
          clear f1 f2 f3 hb4 hz4 O3 OC3
          go_wp2_with fail
          refine (wpIn_wide (n := 8)).1 ?_
          obtain ⟨inb, hinb⟩ : ∃ inb, inb = inbOf n S := ⟨_, rfl⟩
          have HINB := Lib.hid hinb
          have HIB2 := Lib.hid (show ∀ i, i < n → St.inS S i = inb.getD i false from fun i hi => by rw [hinb]; exact HIB.out i hi)
          clear hinb HIB
          have HB4 := Lib.hid (show w.heap.size ≤ W4.heap.size from O4.out.old.size)
          have zz := Z3.out
          have zo := HZO.out
          have z4 := Z4.out
          have CH4 := Lib.hid (O4.out.ch HP.out rfl HIB2.out (fun b => b = ob ∨ W4.heap.size ≤ b) (fun b hb => by rcases hb with rfl | hb <;> omega))
          refine wpIn_rangeFunc_ownA rfl (by decide) (gf := 131) (lb := #[.pointer (some ⟨W3.heap.size + 1, 0, none⟩), .pointer (some ⟨W3.heap.size + 2, 0, none⟩), .pointer (some ⟨W3.heap.size, 0, none⟩)]) rfl trivial (enters_of Tryz.func131 (by kernel_rfl) rfl)
            (stall_stops 7 (W3.heap.size + 1) (W3.heap.size + 2) W3.heap.size cb P n I0 0 n inb (fun b => b = ob ∨ W4.heap.size ≤ b) W4 (Nat.zero_le _) (Nat.le_refl _) hn1 ⟨by rintro (h | h) <;> omega, by rintro (h | h) <;> omega, by rintro (h | h) <;> omega⟩ F1.out F2.out F3.out CH4.out) (fun h k => h.trans k) (fun W l o o' _ h hc _ => kx_b W l o o' h hc) (Below.refl _ _) (fun _ => rfl)
            (OfI L w P cb rb gb hz ob W4.heap.size (St.inS S)) (OfX) (OfI.own (by omega)) (fun c => OfX.own c) ⟨O4.out, T4.out⟩ (fun a x _ => { tmps := (a.tmps.setIfInBounds 45 (.int .i64 (x.1 : Int))).setIfInBounds 10 (.int .i64 (x.1 : Int)), defers := [] }) (fun _ _ _ => True) (fun x a' => fun _ _ _ _ h _ _ => h) ?assign ?body ?done ?stop
          case assign =>
            rintro l pre x W K h hK
            unfold chgArgs
            gi_wp2
            refine hK _ _ (KeepsFrom.refl _ _) (KX.refl _ _) h ⟨0, ?_, trivial⟩
            rfl
          case body =>
            rintro l pre y b W hl0 ⟨hO, hT⟩ _ hlt
            obtain ⟨k, hk9⟩ : ∃ k, k = y.1 := ⟨_, rfl⟩
            have hkl : k < n := by have := y.2.1.2; omega
            rw [← hk9]
            have GO := Lib.hid hO
            have GT := Lib.hid hT
            have HY := Lib.hid hk9
            have hpl : pre.length < n := by omega
            have g0 := hO.g0
            have p2 := hO.p2
            have INS := Lib.hid (poolinst_any (HP.out.then hO.old).at_)
            clear hO hT hk9 hlt F1 F2 F3 CH4 T4 O4 zz zo z4
            simp only [setIfInBounds_toArray, set_cons_zero, set_cons_succ]
            gi_wp2_with fail
            refine ⟨trivial, ?_⟩
            gi_at_call 86
            refine (CallsIn.inRound l (callsIn_wide.2 INS.out)).mono ?_
            rintro e w9 ⟨rfl, h9⟩
            have O9 := Lib.hid (GO.out.then h9)
            have T9 := Lib.hid (GT.out.then h9)
            have B9 := Lib.hid h9
            clear h9 INS g0 p2 GT GO
            have g0 := O9.out.g0
            obtain ⟨kd, hkd⟩ : ∃ kd, kd = kindV L inb I0 k := ⟨_, rfl⟩
            have HKD := Lib.hid hkd
            clear hkd
            obtain ⟨v0, hv0, ho0⟩ := T9.out.row
            have V0 := Lib.hid hv0
            have OV := Lib.hid ho0
            clear hv0 ho0
            by_cases hki : k < I0
            · have hki2 : (k : Int) < (I0 : Int) := by omega
              gi_wp2_with fail
              have KND := Lib.hid (fun W' (hW : OfAt w P cb rb gb hz n (St.inS S) W') => show Calls Tryz.prog 87 #[.pointer (some ⟨cb, 0, none⟩), .int .i64 (k : Int)] W' fun e w' => e = .returned (.int .u8 kd) ∧ Below W'.heap.size W' w' from by
                have hch := hW.ch (inb := inb) HP.out rfl HIB2.out (fun b => W'.heap.size ≤ b) (fun b hb => by have := hW.hz; omega)
                rw [HN9.out] at hch
                have h := stgoesof_any (HP.out.then hW.old) cb inb hch (by have := hW.hz; omega) k (by have := HN9.out; omega) (by have := HN9.out; omega) hI0
                rw [HKD.out]
                unfold kindV
                rw [if_pos hki]
                exact h)
              have O5 := Lib.hid (show 0 = 0 from rfl)
              refine wpIn_region_tail (PP := ofG cb k kd v0) 7 rfl (by kernel_rfl) (by kernel_rfl) (by decide) (by decide) (ofG_mono cb k kd v0) (fun _ => undef) (by simp [fillV, put_someT, setIfInBounds_toArray, set_cons_zero, set_cons_succ]) ?_ ?_
              · intro i o vs W hi ho he hBW K hK
                simp only [take_succ_cons, take_zero, fillV, put_someT, setIfInBounds_toArray, set_cons_zero, set_cons_succ] at hK ⊢
                have OWW := Lib.hid (O9.out.then hBW)
                have V0W := Lib.hid ((hBW.cell (p := ⟨ob, 0, none⟩) (World.block_lt_of_cell? w9 _ V0.out)).trans V0.out)
                obtain rfl | rfl | rfl | rfl | rfl | rfl | rfl := (show i = 0 ∨ i = 1 ∨ i = 2 ∨ i = 3 ∨ i = 4 ∨ i = 5 ∨ i = 6 by exact (by have : i < 7 := hi; omega))
                · simp only [getElem?_toArray, getElem?_cons_zero, getElem?_cons_succ, Option.some.injEq] at ho
                  subst ho
                  rw [if_pos (by rfl)]
                  simp only [put_someT, setIfInBounds_toArray, set_cons_zero, set_cons_succ] at hK
                  have HK := Lib.hid hK
                  clear hK he hi hBW
                  have ccV0W := V0W.out
                  gi_step
                  exact HK.out _ _ rfl (Below.refl _ _)
                · simp only [getElem?_toArray, getElem?_cons_zero, getElem?_cons_succ, Option.some.injEq] at ho
                  subst ho
                  rw [if_pos (by rfl)]
                  simp only [put_someT, setIfInBounds_toArray, set_cons_zero, set_cons_succ] at hK
                  have HK := Lib.hid hK
                  clear hK he hi hBW
                  gi_step
                  exact HK.out _ _ rfl (Below.refl _ _)
                · simp only [getElem?_toArray, getElem?_cons_zero, getElem?_cons_succ, Option.some.injEq] at ho
                  subst ho
                  rw [if_pos (by rfl)]
                  simp only [put_someT, setIfInBounds_toArray, set_cons_zero, set_cons_succ] at hK
                  have HK := Lib.hid hK
                  clear hK he hi hBW
                  gi_step
                  exact HK.out _ _ rfl (Below.refl _ _)
                · simp only [getElem?_toArray, getElem?_cons_zero, getElem?_cons_succ, Option.some.injEq] at ho
                  subst ho
                  have e1 : vs 1 = .func (.func 87) #[.pointer (some ⟨cb, 0, none⟩)] #[] := (he ⟨1, .data⟩ (by simp) rfl : ofG cb k kd v0 1 (vs 1) W)
                  rw [e1] at hK ⊢
                  have e2 : vs 2 = .int .i64 (k : Int) := (he ⟨2, .data⟩ (by simp) rfl : ofG cb k kd v0 2 (vs 2) W)
                  rw [e2] at hK ⊢
                  rw [if_pos (by rfl)]
                  simp only [put_someT, setIfInBounds_toArray, set_cons_zero, set_cons_succ] at hK
                  have HK := Lib.hid hK
                  clear hK he hi hBW
                  have KW := KND.out W OWW.out
                  gi_step
                  refine ⟨trivial, ?_⟩
                  gi_at_call 87
                  refine (CallsIn.inRound l (callsIn_wide.2 KW)).mono ?_
                  rintro en w9 ⟨rfl, h⟩
                  exact HK.out _ _ rfl h
                · simp only [getElem?_toArray, getElem?_cons_zero, getElem?_cons_succ, Option.some.injEq] at ho
                  subst ho
                  rw [if_pos (by rfl)]
                  simp only [put_someT, setIfInBounds_toArray, set_cons_zero, set_cons_succ] at hK
                  have HK := Lib.hid hK
                  clear hK he hi hBW
                  gi_step
                  exact HK.out _ _ rfl (Below.refl _ _)
                · simp only [getElem?_toArray, getElem?_cons_zero, getElem?_cons_succ, Option.some.injEq] at ho
                  subst ho
                  have e3 : vs 3 = .int .u8 kd := (he ⟨3, .data⟩ (by simp) rfl : ofG cb k kd v0 3 (vs 3) W)
                  rw [e3] at hK ⊢
                  have e4 : vs 4 = .int .i64 (k : Int) := (he ⟨4, .data⟩ (by simp) rfl : ofG cb k kd v0 4 (vs 4) W)
                  rw [e4] at hK ⊢
                  rw [if_pos (by rfl)]
                  simp only [put_someT, setIfInBounds_toArray, set_cons_zero, set_cons_succ] at hK
                  have HK := Lib.hid hK
                  clear hK he hi hBW
                  gi_step
                  exact HK.out _ _ rfl (Below.refl _ _)
                · simp only [getElem?_toArray, getElem?_cons_zero, getElem?_cons_succ, Option.some.injEq] at ho
                  subst ho
                  have e5 : vs 5 = .agg #[.int .u8 kd, .int .i64 (k : Int)] := (he ⟨5, .data⟩ (by simp) rfl : ofG cb k kd v0 5 (vs 5) W)
                  rw [e5] at hK ⊢
                  rw [if_pos (by rfl)]
                  simp only [put_someT, setIfInBounds_toArray, set_cons_zero, set_cons_succ] at hK
                  have HK := Lib.hid hK
                  clear hK he hi hBW
                  gi_step
                  exact HK.out _ _ ⟨W.heap.size, rfl, by simp [go_sem], by simp [go_sem]⟩ ((Below.refl _ W).alloc (Nat.le_refl _) _)
              · intro vs W5 hall hBW
                have e0 : vs 0 = v0 := (hall 0 (by decide) : ofG cb k kd v0 0 (vs 0) W5)
                obtain ⟨hb7, e6, hx0, hx1⟩ : ofG cb k kd v0 6 (vs 6) W5 := hall 6 (by decide)
                simp only [take_succ_cons, take_zero, List.drop_succ_cons, List.drop_zero, fillV, put_someT, put_noneC, setIfInBounds_toArray, set_cons_zero, set_cons_succ]
                rw [e0, e6]
                generalize vs 1 = r1
                generalize vs 2 = r2
                generalize vs 3 = r3
                generalize vs 4 = r4
                generalize vs 5 = r5
                have V5 := Lib.hid ((hBW.cell (p := ⟨ob, 0, none⟩) (World.block_lt_of_cell? w9 _ V0.out)).trans V0.out)
                have OV5 := Lib.hid (Own.below OV.out hBW (Nat.le_refl _))
                have T5 := Lib.hid (T9.out.then hBW)
                have B5 := Lib.hid (B9.out.trans (hBW.mono B9.out.size))
                have O55 := Lib.hid (O9.out.then hBW)
                have hlen : (pre.map fun y => (kindV L inb I0 y.1, (y.1 : Int))).length = pre.length := List.length_map _
                obtain ⟨DL, hDL⟩ : ∃ DL : List (Int × Int), DL = pre.map fun y => (kindV L inb I0 y.1, (y.1 : Int)) := ⟨_, rfl⟩
                rw [← hDL] at OV5 T5 hlen
                have HDL := Lib.hid hDL
                clear hDL hall hBW e0 e6 O9 T9 B9 V0 OV O5 KND g0
                gi_wp2_with (gi_at_builtin; refine wpListIn_append_own _ rfl _ _ 43 rfl W4.heap.size 61 i0 (.agg #[.int .u8 0, .int .i64 0]) 2 16 Tryz.underlying43 hi hz0 hz1 hz2 rfl (by decide) _ _ _ rfl OV5.out ⟨hb7, 0, none⟩ 1 1 [.int .u8 kd, .int .i64 (k : Int)] rfl rfl ?c1 ?c2 ?c3 ?c4 ?c5 ?c6)
                case c1 =>
                  intro j u hu
                  match j, hu with
                  | 0, hu => cases hu; exact hx0
                  | 1, hu => cases hu; exact hx1
                  | (j + 2), hu => cases hu
                case c2 => simp [Value.oneCell']
                case c3 => rw [hlen]; unfold maxLen; omega
                case c4 => rw [hlen]; omega
                case c5 => exact T5.out.hz.2
                case c6 =>
                  intro v' w6 ho6 hg6 _
                  rw [← hlen] at ho6
                  obtain ⟨A9, c9, rfl⟩ := own_shape ho6
                  obtain ⟨⟨q1, q2⟩, q3, q4, q5, q6⟩ := OutAt.more (x := (kd, (k : Int))) (v' := .slice A9 (DL.length + 1) c9) T5.out.hz T5.out.fz V5.out OV5.out hg6 (Own.snoc ho6)
                  have Q3 := Lib.hid q3
                  have Q4 := Lib.hid q4
                  have Q5 := Lib.hid q5
                  have O6 := Lib.hid (O55.out.past (q6.mono HZO.out))
                  clear q3 q4 q5 q6 hlen
                  gi_wp2_with fail
                  exact ⟨((KeepsOthers.of_grownBy (grown_below B5.out) (fun _ _ h => by cases h)).trans Q5.out).from _, (KX.of B5.out).trans Q4.out, O6.out, by rw [List.map_append, List.map_singleton, ← HY.out, ← HKD.out, ← HDL.out]; exact Q3.out⟩
            · have hki2 : ¬ (k : Int) < (I0 : Int) := by omega
              gi_wp2_with fail
              have KND := Lib.hid (fun W' (hW : OfAt w P cb rb gb hz n (St.inS S) W') => show Calls Tryz.prog 85 #[.pointer (some ⟨cb, 0, none⟩), .int .i64 (k : Int)] W' fun e w' => e = .returned (.int .u8 kd) ∧ Below W'.heap.size W' w' from by
                have hch := hW.ch (inb := inb) HP.out rfl HIB2.out (fun b => W'.heap.size ≤ b) (fun b hb => by have := hW.hz; omega)
                rw [HN9.out] at hch
                have h := stcomesof_any (HP.out.then hW.old) cb inb hch (by have := hW.hz; omega) k (by have := HN9.out; omega) (by have := HN9.out; omega) hI0
                rw [HKD.out]
                unfold kindV
                rw [if_neg hki]
                exact h)
              have O5 := Lib.hid (show 0 = 0 from rfl)
              refine wpIn_region_tail (PP := ofC cb k kd v0) 7 rfl (by kernel_rfl) (by kernel_rfl) (by decide) (by decide) (ofC_mono cb k kd v0) (fun _ => undef) (by simp [fillV, put_someT, setIfInBounds_toArray, set_cons_zero, set_cons_succ]) ?_ ?_
              · intro i o vs W hi ho he hBW K hK
                simp only [take_succ_cons, take_zero, fillV, put_someT, setIfInBounds_toArray, set_cons_zero, set_cons_succ] at hK ⊢
                have OWW := Lib.hid (O9.out.then hBW)
                have V0W := Lib.hid ((hBW.cell (p := ⟨ob, 0, none⟩) (World.block_lt_of_cell? w9 _ V0.out)).trans V0.out)
                obtain rfl | rfl | rfl | rfl | rfl | rfl | rfl := (show i = 0 ∨ i = 1 ∨ i = 2 ∨ i = 3 ∨ i = 4 ∨ i = 5 ∨ i = 6 by exact (by have : i < 7 := hi; omega))
                · simp only [getElem?_toArray, getElem?_cons_zero, getElem?_cons_succ, Option.some.injEq] at ho
                  subst ho
                  rw [if_pos (by rfl)]
                  simp only [put_someT, setIfInBounds_toArray, set_cons_zero, set_cons_succ] at hK
                  have HK := Lib.hid hK
                  clear hK he hi hBW
                  have ccV0W := V0W.out
                  gi_step
                  exact HK.out _ _ rfl (Below.refl _ _)
                · simp only [getElem?_toArray, getElem?_cons_zero, getElem?_cons_succ, Option.some.injEq] at ho
                  subst ho
                  rw [if_pos (by rfl)]
                  simp only [put_someT, setIfInBounds_toArray, set_cons_zero, set_cons_succ] at hK
                  have HK := Lib.hid hK
                  clear hK he hi hBW
                  gi_step
                  exact HK.out _ _ rfl (Below.refl _ _)
                · simp only [getElem?_toArray, getElem?_cons_zero, getElem?_cons_succ, Option.some.injEq] at ho
                  subst ho
                  rw [if_pos (by rfl)]
                  simp only [put_someT, setIfInBounds_toArray, set_cons_zero, set_cons_succ] at hK
                  have HK := Lib.hid hK
                  clear hK he hi hBW
                  gi_step
                  exact HK.out _ _ rfl (Below.refl _ _)
                · simp only [getElem?_toArray, getElem?_cons_zero, getElem?_cons_succ, Option.some.injEq] at ho
                  subst ho
                  have e1 : vs 1 = .func (.func 85) #[.pointer (some ⟨cb, 0, none⟩)] #[] := (he ⟨1, .data⟩ (by simp) rfl : ofC cb k kd v0 1 (vs 1) W)
                  rw [e1] at hK ⊢
                  have e2 : vs 2 = .int .i64 (k : Int) := (he ⟨2, .data⟩ (by simp) rfl : ofC cb k kd v0 2 (vs 2) W)
                  rw [e2] at hK ⊢
                  rw [if_pos (by rfl)]
                  simp only [put_someT, setIfInBounds_toArray, set_cons_zero, set_cons_succ] at hK
                  have HK := Lib.hid hK
                  clear hK he hi hBW
                  have KW := KND.out W OWW.out
                  gi_step
                  refine ⟨trivial, ?_⟩
                  gi_at_call 85
                  refine (CallsIn.inRound l (callsIn_wide.2 KW)).mono ?_
                  rintro en w9 ⟨rfl, h⟩
                  exact HK.out _ _ rfl h
                · simp only [getElem?_toArray, getElem?_cons_zero, getElem?_cons_succ, Option.some.injEq] at ho
                  subst ho
                  rw [if_pos (by rfl)]
                  simp only [put_someT, setIfInBounds_toArray, set_cons_zero, set_cons_succ] at hK
                  have HK := Lib.hid hK
                  clear hK he hi hBW
                  gi_step
                  exact HK.out _ _ rfl (Below.refl _ _)
                · simp only [getElem?_toArray, getElem?_cons_zero, getElem?_cons_succ, Option.some.injEq] at ho
                  subst ho
                  have e3 : vs 3 = .int .u8 kd := (he ⟨3, .data⟩ (by simp) rfl : ofC cb k kd v0 3 (vs 3) W)
                  rw [e3] at hK ⊢
                  have e4 : vs 4 = .int .i64 (k : Int) := (he ⟨4, .data⟩ (by simp) rfl : ofC cb k kd v0 4 (vs 4) W)
                  rw [e4] at hK ⊢
                  rw [if_pos (by rfl)]
                  simp only [put_someT, setIfInBounds_toArray, set_cons_zero, set_cons_succ] at hK
                  have HK := Lib.hid hK
                  clear hK he hi hBW
                  gi_step
                  exact HK.out _ _ rfl (Below.refl _ _)
                · simp only [getElem?_toArray, getElem?_cons_zero, getElem?_cons_succ, Option.some.injEq] at ho
                  subst ho
                  have e5 : vs 5 = .agg #[.int .u8 kd, .int .i64 (k : Int)] := (he ⟨5, .data⟩ (by simp) rfl : ofC cb k kd v0 5 (vs 5) W)
                  rw [e5] at hK ⊢
                  rw [if_pos (by rfl)]
                  simp only [put_someT, setIfInBounds_toArray, set_cons_zero, set_cons_succ] at hK
                  have HK := Lib.hid hK
                  clear hK he hi hBW
                  gi_step
                  exact HK.out _ _ ⟨W.heap.size, rfl, by simp [go_sem], by simp [go_sem]⟩ ((Below.refl _ W).alloc (Nat.le_refl _) _)
              · intro vs W5 hall hBW
                have e0 : vs 0 = v0 := (hall 0 (by decide) : ofC cb k kd v0 0 (vs 0) W5)
                obtain ⟨hb7, e6, hx0, hx1⟩ : ofC cb k kd v0 6 (vs 6) W5 := hall 6 (by decide)
                simp only [take_succ_cons, take_zero, List.drop_succ_cons, List.drop_zero, fillV, put_someT, put_noneC, setIfInBounds_toArray, set_cons_zero, set_cons_succ]
                rw [e0, e6]
                generalize vs 1 = r1
                generalize vs 2 = r2
                generalize vs 3 = r3
                generalize vs 4 = r4
                generalize vs 5 = r5
                have V5 := Lib.hid ((hBW.cell (p := ⟨ob, 0, none⟩) (World.block_lt_of_cell? w9 _ V0.out)).trans V0.out)
                have OV5 := Lib.hid (Own.below OV.out hBW (Nat.le_refl _))
                have T5 := Lib.hid (T9.out.then hBW)
                have B5 := Lib.hid (B9.out.trans (hBW.mono B9.out.size))
                have O55 := Lib.hid (O9.out.then hBW)
                have hlen : (pre.map fun y => (kindV L inb I0 y.1, (y.1 : Int))).length = pre.length := List.length_map _
                obtain ⟨DL, hDL⟩ : ∃ DL : List (Int × Int), DL = pre.map fun y => (kindV L inb I0 y.1, (y.1 : Int)) := ⟨_, rfl⟩
                rw [← hDL] at OV5 T5 hlen
                have HDL := Lib.hid hDL
                clear hDL hall hBW e0 e6 O9 T9 B9 V0 OV O5 KND g0
                gi_wp2_with (gi_at_builtin; refine wpListIn_append_own _ rfl _ _ 43 rfl W4.heap.size 61 i0 (.agg #[.int .u8 0, .int .i64 0]) 2 16 Tryz.underlying43 hi hz0 hz1 hz2 rfl (by decide) _ _ _ rfl OV5.out ⟨hb7, 0, none⟩ 1 1 [.int .u8 kd, .int .i64 (k : Int)] rfl rfl ?c1 ?c2 ?c3 ?c4 ?c5 ?c6)
                case c1 =>
                  intro j u hu
                  match j, hu with
                  | 0, hu => cases hu; exact hx0
                  | 1, hu => cases hu; exact hx1
                  | (j + 2), hu => cases hu
                case c2 => simp [Value.oneCell']
                case c3 => rw [hlen]; unfold maxLen; omega
                case c4 => rw [hlen]; omega
                case c5 => exact T5.out.hz.2
                case c6 =>
                  intro v' w6 ho6 hg6 _
                  rw [← hlen] at ho6
                  obtain ⟨A9, c9, rfl⟩ := own_shape ho6
                  obtain ⟨⟨q1, q2⟩, q3, q4, q5, q6⟩ := OutAt.more (x := (kd, (k : Int))) (v' := .slice A9 (DL.length + 1) c9) T5.out.hz T5.out.fz V5.out OV5.out hg6 (Own.snoc ho6)
                  have Q3 := Lib.hid q3
                  have Q4 := Lib.hid q4
                  have Q5 := Lib.hid q5
                  have O6 := Lib.hid (O55.out.past (q6.mono HZO.out))
                  clear q3 q4 q5 q6 hlen
                  gi_wp2_with fail
                  exact ⟨((KeepsOthers.of_grownBy (grown_below B5.out) (fun _ _ h => by cases h)).trans Q5.out).from _, (KX.of B5.out).trans Q4.out, O6.out, by rw [List.map_append, List.map_singleton, ← HY.out, ← HKD.out, ← HDL.out]; exact Q3.out⟩
          case done =>
            rintro D ys W hD hys ⟨hO, hT⟩ hK
            have HST := Lib.hid (show stepsV L I0 S = ys.map fun y => (kindV L inb I0 y.1, (y.1 : Int)) by
              unfold stepsV
              rw [HBS.out, ← HN9.out, ← HINB.out, if_neg Bool.false_ne_true, ← hys, List.map_map]
              rfl)
            obtain ⟨DL, hDL⟩ : ∃ DL : List (Int × Int), DL = ys.map fun y => (kindV L inb I0 y.1, (y.1 : Int)) := ⟨_, rfl⟩
            rw [← hDL] at HST hT
            obtain ⟨v, hv, ho⟩ := hT.row
            obtain ⟨A9, c9, rfl⟩ := own_shape ho
            have HO := Lib.hid hO
            have OW := Lib.hid ho
            have HV := Lib.hid hv
            have HK := Lib.hid hK
            have HD := Lib.hid hD
            obtain ⟨dn, hdn⟩ : ∃ dn, dn = DL.length := ⟨_, rfl⟩
            rw [← hdn] at OW HV hv
            clear hDL hO hT ho hK hD hys hdn F1 F2 F3 CH4 T4 O4
            go_wp2_with fail
            refine ⟨by simp, .inl ⟨_, _, rfl, run_takeDeferred HK.out, ?_⟩⟩
            have MP := belowK_b (n₀ := w.heap.size) (w := W4) (by have := HB4.out; omega) _ D _ (.deferred none) HD.out HK.out rfl rfl
            exact ⟨.tuple #[.slice A9 dn c9, .int .i64 0], by simp [results, Tryz.results25, go_sem], _, by rw [HER.out, HBS.out]; rfl, by rw [HST.out]; exact (own_put OW.out HK.out rfl _).more HB4.out, HO.out.old.trans (MP.mono (Nat.le_refl _))⟩
          case stop =>
            rintro D c pre W hD hpre h2 hK
            exact h2.elim
end Go.Proofs.YteobmfpbgnmffaaGreatDoor
