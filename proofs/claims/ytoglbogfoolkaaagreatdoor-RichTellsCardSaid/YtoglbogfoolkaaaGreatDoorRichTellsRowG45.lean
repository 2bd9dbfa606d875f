/- RichTellsL -/
import Derived.Test.YtoglbogfoolkaaaGreatDoorRichTellsRowG36
import Derived.Test.YtoglbogfoolkaaaGreatDoorRichTellsRowG43
import Derived.Test.YtoglbogfoolkaaaGreatDoorRichTellsRowG44
/- RichTells, walked. -/





namespace Go.Proofs.YtoglbogfoolkaaaGreatDoor
open Go.RowKit Go.Shelf
set_option linter.unusedVariables false

theorem put_someT {t : Array Value} {ds : List Deferred} {d : Tmp} {v : Value} : Act.put ⟨t, ds⟩ (some d) v = ⟨t.setIfInBounds d v, ds⟩ := rfl
def tlP (a rv : RV) (vA vB : Value) (eE eS : Int) (sB : ByteArray) (wh : Bool) (i : Nat) (v : Value) (W : World) : Prop := match i with
  | 0 => v = vA
  | 1 => v = vB
  | 2 => v = .bool true
  | 3 => v = .bool true
  | 4 => v = .int .i64 eE
  | 5 => v = .int .i64 eE
  | 6 => v = .bool true
  | 7 => v = .bool true
  | 8 => v = .bool true
  | 9 => v = .string sB
  | 10 => v = .string sB
  | 11 => v = .bool true
  | 12 => v = .bool true
  | 13 => v = .bool true
  | 14 => v = .int .i64 eS
  | 15 => v = .int .i64 eS
  | 16 => v = .bool true
  | 17 => v = .bool true
  | 18 => v = .bool true
  | 19 => v = .agg #[.int .u8 a.kind, .string (bs a.dep.name), .int .u8 a.dep.op, .int .i64 a.dep.evr.epoch, .string (bs a.dep.evr.ver), .string (bs a.dep.evr.rel), .slice a.addr a.args.length a.cap]
  | 20 => v = .bool wh
  | 21 => v = .agg #[.int .u8 a.kind, .string (bs a.dep.name), .int .u8 a.dep.op, .int .i64 a.dep.evr.epoch, .string (bs a.dep.evr.ver), .string (bs a.dep.evr.rel), .slice a.addr a.args.length a.cap]
  | 22 => v = .bool wh
  | 23 => v = .bool true
  | 24 => v = .bool true
  | 25 => v = .bool true
  | 26 => v = .agg #[.int .u8 a.kind, .string (bs a.dep.name), .int .u8 a.dep.op, .int .i64 a.dep.evr.epoch, .string (bs a.dep.evr.ver), .string (bs a.dep.evr.rel), .slice a.addr a.args.length a.cap]
  | 27 => v = .agg #[.int .u8 rv.kind, .string (bs rv.dep.name), .int .u8 rv.dep.op, .int .i64 rv.dep.evr.epoch, .string (bs rv.dep.evr.ver), .string (bs rv.dep.evr.rel), .slice rv.addr rv.args.length rv.cap]
  | 28 => v = .bool true
  | 29 => v = .bool true
  | 30 => v = .bool true
  | 31 => v = .bool true
  | 32 => v = .bool true
  | 33 => v = .bool true
  | _ => False
theorem tlP_mono (a rv : RV) (vA vB : Value) (eE eS : Int) (sB : ByteArray) (wh : Bool) : ∀ i v w w', tlP a rv vA vB eE eS sB wh i v w → Below w.heap.size w w' → tlP a rv vA vB eE eS sB wh i v w' := by
  intro i v w w' h _
  match i, h with
  | 0, h => exact h
  | 1, h => exact h
  | 2, h => exact h
  | 3, h => exact h
  | 4, h => exact h
  | 5, h => exact h
  | 6, h => exact h
  | 7, h => exact h
  | 8, h => exact h
  | 9, h => exact h
  | 10, h => exact h
  | 11, h => exact h
  | 12, h => exact h
  | 13, h => exact h
  | 14, h => exact h
  | 15, h => exact h
  | 16, h => exact h
  | 17, h => exact h
  | 18, h => exact h
  | 19, h => exact h
  | 20, h => exact h
  | 21, h => exact h
  | 22, h => exact h
  | 23, h => exact h
  | 24, h => exact h
  | 25, h => exact h
  | 26, h => exact h
  | 27, h => exact h
  | 28, h => exact h
  | 29, h => exact h
  | 30, h => exact h
  | 31, h => exact h
  | 32, h => exact h
  | 33, h => exact h
  | (n + 34), h => exact h.elim
theorem wpost_same {t : RT} {wh : Bool} (hw : wh = t.whole) {W w' : World} {e : Ending} (h : WPost t W e w') : ∃ A c n, ∃ x : Int, e = .returned (.tuple #[.slice A n c, .int .i64 x]) ∧ (∃ D : List ByteArray, n = D.length ∧ D = (if wh = true then t.words.map bs else []) ∧ TR w' A D) ∧ x = (if wh = true then 0 else 4) ∧ Below W.heap.size W w' := by
  unfold WPost at h
  rw [← hw] at h
  cases wh
  · rw [if_neg (by decide)] at h
    obtain ⟨rfl, hb⟩ := h
    exact ⟨none, 0, 0, 4, rfl, ⟨[], rfl, rfl, fun j hj => by simp at hj⟩, rfl, hb⟩
  · rw [if_pos rfl] at h
    obtain ⟨A, c, rfl, ht, hb⟩ := h
    exact ⟨A, c, _, 0, rfl, ⟨_, by simp, rfl, ht⟩, rfl, hb⟩
theorem tr_below {W W' : World} {A : Option Addr} {D : List ByteArray} (h : TR W A D) (hb : Below W.heap.size W W') : TR W' A D := fun j hj => by
  obtain ⟨b, o, e, hl, hc⟩ := h j hj
  exact ⟨b, o, e, Nat.lt_of_lt_of_le hl hb.size, (hb.cell (p := ⟨b, o + j, none⟩) hl).trans hc⟩
theorem texts_same {t : RT} {wh : Bool} {w3 w4 : World} {A1 A2 : Option Addr} {n1 n2 k1 k2 : Nat} (h1 : ∃ D : List ByteArray, n1 = D.length ∧ D = (if wh = true then t.words.map bs else []) ∧ TR w3 A1 D) (h2 : ∃ D : List ByteArray, n2 = D.length ∧ D = (if wh = true then t.words.map bs else []) ∧ TR w4 A2 D) (h : Below w3.heap.size w3 w4)
    {W : World} (hb : Below w4.heap.size w4 W) (hp : t.parts ≤ 1000000) : Calls Tryz.prog 33 #[.slice A1 n1 k1, .slice A2 n2 k2] W fun e w' => e = .returned (.bool true) ∧ Below W.heap.size W w' := by
  obtain ⟨D, rfl, hD, t1⟩ := h1
  obtain ⟨E, rfl, hE, t2⟩ := h2
  have hDE : D = E := hD.trans hE.symm
  have hl : D.length ≤ 1000000000 := by
    rw [hD]; split
    · rw [List.length_map]; have := words_many t; omega
    · simp
  have := textsR06_any A1 A2 k1 k2 D E W hl (hDE ▸ hl) (tr_below (tr_below t1 h) hb) (tr_below t2 hb)
  rw [show decide (D = E) = true from decide_eq_true hDE] at this
  exact this
set_option maxRecDepth 100000 in
set_option maxHeartbeats 16000000 in
theorem richTells_row (w : World) (hI : RichIn w) (a : RV) (ha : RTree w.heap.size w a) : Calls Tryz.prog 4 #[a.val] w fun e w' => e = .returned (.bool true) ∧ Below w.heap.size w w' := by
  have X0 := Lib.hid (BX.new ha)
  have B0 := Lib.hid ((Below.refl w.heap.size w).alloc (Nat.le_refl _) (.cells #[.int .u8 a.kind, .string (bs a.dep.name), .int .u8 a.dep.op, .int .i64 a.dep.evr.epoch, .string (bs a.dep.evr.ver), .string (bs a.dep.evr.rel), .slice a.addr a.args.length a.cap] 39))
  have HI := Lib.hid hI
  have AW := Lib.hid (fun W (h : Below w.heap.size w W) => rawake W (hI.below h))
  have LG := Lib.hid (fun W (h : RTree W.heap.size W a) => rlarge_any a W h)
  have CY := Lib.hid (fun W (hp : a.tree.parts ≤ 1000000) (h : RTree W.heap.size W a) => (rcopy_any a.ht a W (Nat.le_refl _) hp h).mono fun e w' hh => CopyPost.tq h.wf hh)
  have SM := Lib.hid (fun (b : RV) W (h : RTree W.heap.size W a) (h2 : RTree W.heap.size W b) => rsame_any a.ht a b W (Nat.le_refl _) h h2)
  have W1 := Lib.hid (fun W (hb : Below w.heap.size w W) (hp : a.tree.parts ≤ 1000000) (h : RTree W.heap.size W a) => rwordsW_any a W hp h (hI.below hb))
  have W2 := Lib.hid (fun W (hp : a.tree.parts ≤ 1000000) (h : RTree W.heap.size W a) => rtwordsW_any a W hp h)
  have S1 := Lib.hid (fun W (hb : Below w.heap.size w W) (hp : a.tree.parts ≤ 1000000) (h : RTree W.heap.size W a) => rshow_any a W hp h (hI.below hb))
  have S2 := Lib.hid (fun W (hp : a.tree.parts ≤ 1000000) (h : RTree W.heap.size W a) => rtshow_any a W hp h)
  have H1 := Lib.hid (fun W (hb : Below w.heap.size w W) (hp : a.tree.parts ≤ 1000000) (h : RTree W.heap.size W a) => rwhole_any a W hp h (hI.below hb))
  have H2 := Lib.hid (fun W (hp : a.tree.parts ≤ 1000000) (h : RTree W.heap.size W a) => rtwhole_any a W hp h)
  clear hI ha
  unfold RV.val at LG CY SM W1 W2 S1 S2 H1 H2 ⊢
  go_enter Tryz.func4, Tryz.ntmps4
  obtain ⟨⟨c0, c1, c2, c3, c4, c5, c6⟩, _, _⟩ := X0.out.box
  go_wp2_with fail
  go_at_call 26
  refine (LG.out _ X0.out.tree).mono ?_
  rintro e w1 ⟨r, rfl, hpr, h⟩
  have B1 := Lib.hid (B0.out.trans (h.mono B0.out.size))
  have X1 := Lib.hid (X0.out.then h)
  clear h X0 B0 c0 c1 c2 c3 c4 c5 c6
  cases r
  rotate_left
  · go_wp2_with fail
    go_at_call 27
    refine (AW.out _ B1.out).mono ?_
    rintro e w2 ⟨rfl, h⟩
    have B2 := B1.out.trans (h.mono B1.out.size)
    go_wp2
    go_ret
    exact ⟨rfl, B2⟩
  have HP := Lib.hid (show a.tree.parts ≤ 1000000 from Nat.le_trans (hpr rfl) (by omega))
  clear hpr
  obtain ⟨⟨c0, c1, c2, c3, c4, c5, c6⟩, _, _⟩ := X1.out.box
  go_wp2_with fail
  go_at_call 28
  refine (CY.out _ HP.out X1.out.tree).mono ?_
  rintro e w2 ⟨rv, rfl, hrt, hT, h⟩
  have B2 := Lib.hid ((B1.out.trans (h.mono B1.out.size)).alloc (by have := B1.out.size; have := h.size; omega) (.cells #[.int .u8 rv.kind, .string (bs rv.dep.name), .int .u8 rv.dep.op, .int .i64 rv.dep.evr.epoch, .string (bs rv.dep.evr.ver), .string (bs rv.dep.evr.rel), .slice rv.addr rv.args.length rv.cap] 39))
  have X2 := Lib.hid ((X1.out.then h).alloc (.cells #[.int .u8 rv.kind, .string (bs rv.dep.name), .int .u8 rv.dep.op, .int .i64 rv.dep.evr.epoch, .string (bs rv.dep.evr.ver), .string (bs rv.dep.evr.rel), .slice rv.addr rv.args.length rv.cap] 39))
  have Y2 := Lib.hid (BX.new (a := rv) (w := w2) (hT.rtree fun b hb => hb.2))
  have HRT := Lib.hid hrt
  clear h hT hrt X1 B1 c0 c1 c2 c3 c4 c5 c6
  obtain ⟨⟨c0, c1, c2, c3, c4, c5, c6⟩, _, _⟩ := X2.out.box
  go_wp2_with fail
  go_at_call 29
  generalize w2.alloc (.cells #[.int .u8 rv.kind, .string (bs rv.dep.name), .int .u8 rv.dep.op, .int .i64 rv.dep.evr.epoch, .string (bs rv.dep.evr.ver), .string (bs rv.dep.evr.rel), .slice rv.addr rv.args.length rv.cap] 39) = V at *
  generalize w2.heap.size = kb at *
  obtain ⟨wh, hwh⟩ : ∃ wh, wh = a.tree.whole := ⟨_, rfl⟩
  rw [← hwh] at H1 H2
  have WP := Lib.hid (show ∀ W e w', WPost a.tree W e w' → ∃ A c n, ∃ x : Int, e = .returned (.tuple #[.slice A n c, .int .i64 x]) ∧ (∃ D : List ByteArray, n = D.length ∧ D = (if wh = true then a.tree.words.map bs else []) ∧ TR w' A D) ∧ x = (if wh = true then 0 else 4) ∧ Below W.heap.size W w' from fun W e w' h => wpost_same hwh h)
  have HWH := Lib.hid hwh
  clear hwh
  refine ((W1.out _ B2.out HP.out X2.out.tree).mono fun e w' h => WP.out _ e w' h).mono ?_
  rintro e w3 ⟨A1, k1, n1, x1, rfl, hD1, hx1, h⟩
  have B3 := Lib.hid (B2.out.trans (h.mono B2.out.size))
  have X3 := Lib.hid (X2.out.then h)
  have Y3 := Lib.hid (Y2.out.then h)
  have D1 := Lib.hid hD1
  have HX1 := Lib.hid hx1
  clear h hD1 hx1 B2 X2 Y2 c0 c1 c2 c3 c4 c5 c6
  obtain ⟨⟨c0, c1, c2, c3, c4, c5, c6⟩, _, _⟩ := X3.out.box
  go_wp2_with fail
  go_at_call 30
  refine ((W2.out _ HP.out X3.out.tree).mono fun e w' h => WP.out _ e w' h).mono ?_
  rintro e w4 ⟨A2, k2, n2, x2, rfl, hD2, hx2, h⟩
  have B4 := Lib.hid (B3.out.trans (h.mono B3.out.size))
  have X4 := Lib.hid (X3.out.then h)
  have Y4 := Lib.hid (Y3.out.then h)
  obtain rfl : x1 = x2 := HX1.out.trans hx2.symm
  have TX := Lib.hid (show ∀ W, Below w4.heap.size w4 W → Calls Tryz.prog 33 #[.slice A1 n1 k1, .slice A2 n2 k2] W fun e w' => e = .returned (.bool true) ∧ Below W.heap.size W w' from fun W hb => texts_same D1.out hD2 h hb HP.out)
  clear h hD2 hx2 B3 X3 Y3 D1 HX1 c0 c1 c2 c3 c4 c5 c6
  obtain ⟨⟨c0, c1, c2, c3, c4, c5, c6⟩, _, _⟩ := X4.out.box
  obtain ⟨sB, hsB⟩ : ∃ sB, sB = bs (showR a.tree).1 := ⟨_, rfl⟩
  obtain ⟨eS, heS⟩ : ∃ eS, eS = (showR a.tree).2 := ⟨_, rfl⟩
  rw [← hsB, ← heS] at S1 S2
  clear hsB heS
  go_wp2_with fail
  go_at_call 31
  refine (S1.out _ B4.out HP.out X4.out.tree).mono ?_
  rintro e w5 ⟨rfl, h⟩
  have B5 := Lib.hid (B4.out.trans (h.mono B4.out.size))
  have X5 := Lib.hid (X4.out.then h)
  have Y5 := Lib.hid (Y4.out.then h)
  have b5 := h
  clear h B4 X4 Y4 c0 c1 c2 c3 c4 c5 c6
  obtain ⟨⟨c0, c1, c2, c3, c4, c5, c6⟩, _, _⟩ := X5.out.box
  go_wp2_with fail
  go_at_call 32
  refine (S2.out _ HP.out X5.out.tree).mono ?_
  rintro e w6 ⟨rfl, h⟩
  have B6 := Lib.hid (B5.out.trans (h.mono B5.out.size))
  have X6 := Lib.hid (X5.out.then h)
  have Y6 := Lib.hid (Y5.out.then h)
  have B46 := Lib.hid (b5.trans (h.mono b5.size))
  clear h b5 B5 X5 Y5 c0 c1 c2 c3 c4 c5 c6
  go_wp2_with fail
  refine wp_region_vals (PP := tlP a rv (.slice A1 n1 k1) (.slice A2 n2 k2) x1 eS sB wh) rfl (by kernel_rfl) (by decide) (tlP_mono _ _ _ _ _ _ _ _) (fun i => if i = 33 then .bool false else undef) (by simp [fillV, put_someT, List.setIfInBounds_toArray, List.set_cons_zero, List.set_cons_succ]) ?_ ?_
  · intro i o vs W hi ho he hBW K hK
    simp only [fillV, put_someT, List.setIfInBounds_toArray, List.set_cons_zero, List.set_cons_succ] at hK ⊢
    have BW := Lib.hid (B6.out.trans (hBW.mono B6.out.size))
    have XW := Lib.hid (X6.out.then hBW)
    have YW := Lib.hid (Y6.out.then hBW)
    have B4W := Lib.hid (B46.out.trans (hBW.mono B46.out.size))
    obtain rfl | rfl | rfl | rfl | rfl | rfl | rfl | rfl | rfl | rfl | rfl | rfl | rfl | rfl | rfl | rfl | rfl | rfl | rfl | rfl | rfl | rfl | rfl | rfl | rfl | rfl | rfl | rfl | rfl | rfl | rfl | rfl | rfl | rfl := (show i = 0 ∨ i = 1 ∨ i = 2 ∨ i = 3 ∨ i = 4 ∨ i = 5 ∨ i = 6 ∨ i = 7 ∨ i = 8 ∨ i = 9 ∨ i = 10 ∨ i = 11 ∨ i = 12 ∨ i = 13 ∨ i = 14 ∨ i = 15 ∨ i = 16 ∨ i = 17 ∨ i = 18 ∨ i = 19 ∨ i = 20 ∨ i = 21 ∨ i = 22 ∨ i = 23 ∨ i = 24 ∨ i = 25 ∨ i = 26 ∨ i = 27 ∨ i = 28 ∨ i = 29 ∨ i = 30 ∨ i = 31 ∨ i = 32 ∨ i = 33 by exact (by have : i < 34 := hi; omega))
    · simp only [List.getElem?_toArray, List.getElem?_cons_zero, List.getElem?_cons_succ, Option.some.injEq] at ho
      subst ho
      rw [if_pos (by rfl)]
      simp only [put_someT, List.setIfInBounds_toArray, List.set_cons_zero, List.set_cons_succ] at hK
      have HK := Lib.hid hK
      clear hK he hi hBW
      go_simp
      exact HK.out _ _ (by first | rfl | simp [tlP]) (Below.refl _ _)
    · simp only [List.getElem?_toArray, List.getElem?_cons_zero, List.getElem?_cons_succ, Option.some.injEq] at ho
      subst ho
      rw [if_pos (by rfl)]
      simp only [put_someT, List.setIfInBounds_toArray, List.set_cons_zero, List.set_cons_succ] at hK
      have HK := Lib.hid hK
      clear hK he hi hBW
      go_simp
      exact HK.out _ _ (by first | rfl | simp [tlP]) (Below.refl _ _)
    · simp only [List.getElem?_toArray, List.getElem?_cons_zero, List.getElem?_cons_succ, Option.some.injEq] at ho
      subst ho
      have e0 : vs 0 = .slice A1 n1 k1 := (he ⟨0, .data⟩ (by simp) rfl : tlP a rv (.slice A1 n1 k1) (.slice A2 n2 k2) x1 eS sB wh 0 (vs 0) W)
      rw [e0] at hK ⊢
      have e1 : vs 1 = .slice A2 n2 k2 := (he ⟨1, .data⟩ (by simp) rfl : tlP a rv (.slice A1 n1 k1) (.slice A2 n2 k2) x1 eS sB wh 1 (vs 1) W)
      rw [e1] at hK ⊢
      rw [if_pos (by rfl)]
      simp only [put_someT, List.setIfInBounds_toArray, List.set_cons_zero, List.set_cons_succ] at hK
      have HK := Lib.hid hK
      clear hK he hi hBW
      go_simp
      go_at_call 33
      refine (TX.out _ B4W.out).mono ?_
      rintro en w9 ⟨rfl, h⟩
      go_simp
      exact HK.out _ _ rfl h
    · simp only [List.getElem?_toArray, List.getElem?_cons_zero, List.getElem?_cons_succ, Option.some.injEq] at ho
      subst ho
      have e2 : vs 2 = .bool true := (he ⟨2, .data⟩ (by simp) rfl : tlP a rv (.slice A1 n1 k1) (.slice A2 n2 k2) x1 eS sB wh 2 (vs 2) W)
      rw [e2] at hK ⊢
      rw [if_pos (by rfl)]
      simp only [put_someT, List.setIfInBounds_toArray, List.set_cons_zero, List.set_cons_succ] at hK
      have HK := Lib.hid hK
      clear hK he hi hBW
      go_simp
      exact HK.out _ _ (by first | rfl | simp [tlP]) (Below.refl _ _)
    · simp only [List.getElem?_toArray, List.getElem?_cons_zero, List.getElem?_cons_succ, Option.some.injEq] at ho
      subst ho
      have e3 : vs 3 = .bool true := (he ⟨3, .guard⟩ (by simp) rfl : tlP a rv (.slice A1 n1 k1) (.slice A2 n2 k2) x1 eS sB wh 3 (vs 3) W)
      rw [e3] at hK ⊢
      rw [if_pos (by rfl)]
      simp only [put_someT, List.setIfInBounds_toArray, List.set_cons_zero, List.set_cons_succ] at hK
      have HK := Lib.hid hK
      clear hK he hi hBW
      go_simp
      exact HK.out _ _ (by first | rfl | simp [tlP]) (Below.refl _ _)
    · simp only [List.getElem?_toArray, List.getElem?_cons_zero, List.getElem?_cons_succ, Option.some.injEq] at ho
      subst ho
      have e3 : vs 3 = .bool true := (he ⟨3, .guard⟩ (by simp) rfl : tlP a rv (.slice A1 n1 k1) (.slice A2 n2 k2) x1 eS sB wh 3 (vs 3) W)
      rw [e3] at hK ⊢
      rw [if_pos (by rfl)]
      simp only [put_someT, List.setIfInBounds_toArray, List.set_cons_zero, List.set_cons_succ] at hK
      have HK := Lib.hid hK
      clear hK he hi hBW
      go_simp
      exact HK.out _ _ (by first | rfl | simp [tlP]) (Below.refl _ _)
    · simp only [List.getElem?_toArray, List.getElem?_cons_zero, List.getElem?_cons_succ, Option.some.injEq] at ho
      subst ho
      have e4 : vs 4 = .int .i64 x1 := (he ⟨4, .data⟩ (by simp) rfl : tlP a rv (.slice A1 n1 k1) (.slice A2 n2 k2) x1 eS sB wh 4 (vs 4) W)
      rw [e4] at hK ⊢
      have e5 : vs 5 = .int .i64 x1 := (he ⟨5, .data⟩ (by simp) rfl : tlP a rv (.slice A1 n1 k1) (.slice A2 n2 k2) x1 eS sB wh 5 (vs 5) W)
      rw [e5] at hK ⊢
      have e3 : vs 3 = .bool true := (he ⟨3, .guard⟩ (by simp) rfl : tlP a rv (.slice A1 n1 k1) (.slice A2 n2 k2) x1 eS sB wh 3 (vs 3) W)
      rw [e3] at hK ⊢
      rw [if_pos (by rfl)]
      simp only [put_someT, List.setIfInBounds_toArray, List.set_cons_zero, List.set_cons_succ] at hK
      have HK := Lib.hid hK
      clear hK he hi hBW
      go_simp
      exact HK.out _ _ (by first | rfl | simp [tlP]) (Below.refl _ _)
    · simp only [List.getElem?_toArray, List.getElem?_cons_zero, List.getElem?_cons_succ, Option.some.injEq] at ho
      subst ho
      have e3 : vs 3 = .bool true := (he ⟨3, .data⟩ (by simp) rfl : tlP a rv (.slice A1 n1 k1) (.slice A2 n2 k2) x1 eS sB wh 3 (vs 3) W)
      rw [e3] at hK ⊢
      have e6 : vs 6 = .bool true := (he ⟨6, .data⟩ (by simp) rfl : tlP a rv (.slice A1 n1 k1) (.slice A2 n2 k2) x1 eS sB wh 6 (vs 6) W)
      rw [e6] at hK ⊢
      rw [if_pos (by rfl)]
      simp only [put_someT, List.setIfInBounds_toArray, List.set_cons_zero, List.set_cons_succ] at hK
      have HK := Lib.hid hK
      clear hK he hi hBW
      go_simp
      exact HK.out _ _ (by first | rfl | simp [tlP]) (Below.refl _ _)
    · simp only [List.getElem?_toArray, List.getElem?_cons_zero, List.getElem?_cons_succ, Option.some.injEq] at ho
      subst ho
      have e7 : vs 7 = .bool true := (he ⟨7, .data⟩ (by simp) rfl : tlP a rv (.slice A1 n1 k1) (.slice A2 n2 k2) x1 eS sB wh 7 (vs 7) W)
      rw [e7] at hK ⊢
      rw [if_pos (by rfl)]
      simp only [put_someT, List.setIfInBounds_toArray, List.set_cons_zero, List.set_cons_succ] at hK
      have HK := Lib.hid hK
      clear hK he hi hBW
      go_simp
      exact HK.out _ _ (by first | rfl | simp [tlP]) (Below.refl _ _)
    · simp only [List.getElem?_toArray, List.getElem?_cons_zero, List.getElem?_cons_succ, Option.some.injEq] at ho
      subst ho
      have e8 : vs 8 = .bool true := (he ⟨8, .guard⟩ (by simp) rfl : tlP a rv (.slice A1 n1 k1) (.slice A2 n2 k2) x1 eS sB wh 8 (vs 8) W)
      rw [e8] at hK ⊢
      rw [if_pos (by rfl)]
      simp only [put_someT, List.setIfInBounds_toArray, List.set_cons_zero, List.set_cons_succ] at hK
      have HK := Lib.hid hK
      clear hK he hi hBW
      go_simp
      exact HK.out _ _ (by first | rfl | simp [tlP]) (Below.refl _ _)
    · simp only [List.getElem?_toArray, List.getElem?_cons_zero, List.getElem?_cons_succ, Option.some.injEq] at ho
      subst ho
      have e8 : vs 8 = .bool true := (he ⟨8, .guard⟩ (by simp) rfl : tlP a rv (.slice A1 n1 k1) (.slice A2 n2 k2) x1 eS sB wh 8 (vs 8) W)
      rw [e8] at hK ⊢
      rw [if_pos (by rfl)]
      simp only [put_someT, List.setIfInBounds_toArray, List.set_cons_zero, List.set_cons_succ] at hK
      have HK := Lib.hid hK
      clear hK he hi hBW
      go_simp
      exact HK.out _ _ (by first | rfl | simp [tlP]) (Below.refl _ _)
    · simp only [List.getElem?_toArray, List.getElem?_cons_zero, List.getElem?_cons_succ, Option.some.injEq] at ho
      subst ho
      have e9 : vs 9 = .string sB := (he ⟨9, .data⟩ (by simp) rfl : tlP a rv (.slice A1 n1 k1) (.slice A2 n2 k2) x1 eS sB wh 9 (vs 9) W)
      rw [e9] at hK ⊢
      have e10 : vs 10 = .string sB := (he ⟨10, .data⟩ (by simp) rfl : tlP a rv (.slice A1 n1 k1) (.slice A2 n2 k2) x1 eS sB wh 10 (vs 10) W)
      rw [e10] at hK ⊢
      have e8 : vs 8 = .bool true := (he ⟨8, .guard⟩ (by simp) rfl : tlP a rv (.slice A1 n1 k1) (.slice A2 n2 k2) x1 eS sB wh 8 (vs 8) W)
      rw [e8] at hK ⊢
      rw [if_pos (by rfl)]
      simp only [put_someT, List.setIfInBounds_toArray, List.set_cons_zero, List.set_cons_succ] at hK
      have HK := Lib.hid hK
      clear hK he hi hBW
      go_simp
      exact HK.out _ _ (by first | rfl | simp [tlP]) (Below.refl _ _)
    · simp only [List.getElem?_toArray, List.getElem?_cons_zero, List.getElem?_cons_succ, Option.some.injEq] at ho
      subst ho
      have e8 : vs 8 = .bool true := (he ⟨8, .data⟩ (by simp) rfl : tlP a rv (.slice A1 n1 k1) (.slice A2 n2 k2) x1 eS sB wh 8 (vs 8) W)
      rw [e8] at hK ⊢
      have e11 : vs 11 = .bool true := (he ⟨11, .data⟩ (by simp) rfl : tlP a rv (.slice A1 n1 k1) (.slice A2 n2 k2) x1 eS sB wh 11 (vs 11) W)
      rw [e11] at hK ⊢
      rw [if_pos (by rfl)]
      simp only [put_someT, List.setIfInBounds_toArray, List.set_cons_zero, List.set_cons_succ] at hK
      have HK := Lib.hid hK
      clear hK he hi hBW
      go_simp
      exact HK.out _ _ (by first | rfl | simp [tlP]) (Below.refl _ _)
    · simp only [List.getElem?_toArray, List.getElem?_cons_zero, List.getElem?_cons_succ, Option.some.injEq] at ho
      subst ho
      have e12 : vs 12 = .bool true := (he ⟨12, .data⟩ (by simp) rfl : tlP a rv (.slice A1 n1 k1) (.slice A2 n2 k2) x1 eS sB wh 12 (vs 12) W)
      rw [e12] at hK ⊢
      rw [if_pos (by rfl)]
      simp only [put_someT, List.setIfInBounds_toArray, List.set_cons_zero, List.set_cons_succ] at hK
      have HK := Lib.hid hK
      clear hK he hi hBW
      go_simp
      exact HK.out _ _ (by first | rfl | simp [tlP]) (Below.refl _ _)
    · simp only [List.getElem?_toArray, List.getElem?_cons_zero, List.getElem?_cons_succ, Option.some.injEq] at ho
      subst ho
      have e13 : vs 13 = .bool true := (he ⟨13, .guard⟩ (by simp) rfl : tlP a rv (.slice A1 n1 k1) (.slice A2 n2 k2) x1 eS sB wh 13 (vs 13) W)
      rw [e13] at hK ⊢
      rw [if_pos (by rfl)]
      simp only [put_someT, List.setIfInBounds_toArray, List.set_cons_zero, List.set_cons_succ] at hK
      have HK := Lib.hid hK
      clear hK he hi hBW
      go_simp
      exact HK.out _ _ (by first | rfl | simp [tlP]) (Below.refl _ _)
    · simp only [List.getElem?_toArray, List.getElem?_cons_zero, List.getElem?_cons_succ, Option.some.injEq] at ho
      subst ho
      have e13 : vs 13 = .bool true := (he ⟨13, .guard⟩ (by simp) rfl : tlP a rv (.slice A1 n1 k1) (.slice A2 n2 k2) x1 eS sB wh 13 (vs 13) W)
      rw [e13] at hK ⊢
      rw [if_pos (by rfl)]
      simp only [put_someT, List.setIfInBounds_toArray, List.set_cons_zero, List.set_cons_succ] at hK
      have HK := Lib.hid hK
      clear hK he hi hBW
      go_simp
      exact HK.out _ _ (by first | rfl | simp [tlP]) (Below.refl _ _)
    · simp only [List.getElem?_toArray, List.getElem?_cons_zero, List.getElem?_cons_succ, Option.some.injEq] at ho
      subst ho
      have e14 : vs 14 = .int .i64 eS := (he ⟨14, .data⟩ (by simp) rfl : tlP a rv (.slice A1 n1 k1) (.slice A2 n2 k2) x1 eS sB wh 14 (vs 14) W)
      rw [e14] at hK ⊢
      have e15 : vs 15 = .int .i64 eS := (he ⟨15, .data⟩ (by simp) rfl : tlP a rv (.slice A1 n1 k1) (.slice A2 n2 k2) x1 eS sB wh 15 (vs 15) W)
      rw [e15] at hK ⊢
      have e13 : vs 13 = .bool true := (he ⟨13, .guard⟩ (by simp) rfl : tlP a rv (.slice A1 n1 k1) (.slice A2 n2 k2) x1 eS sB wh 13 (vs 13) W)
      rw [e13] at hK ⊢
      rw [if_pos (by rfl)]
      simp only [put_someT, List.setIfInBounds_toArray, List.set_cons_zero, List.set_cons_succ] at hK
      have HK := Lib.hid hK
      clear hK he hi hBW
      go_simp
      exact HK.out _ _ (by first | rfl | simp [tlP]) (Below.refl _ _)
    · simp only [List.getElem?_toArray, List.getElem?_cons_zero, List.getElem?_cons_succ, Option.some.injEq] at ho
      subst ho
      have e13 : vs 13 = .bool true := (he ⟨13, .data⟩ (by simp) rfl : tlP a rv (.slice A1 n1 k1) (.slice A2 n2 k2) x1 eS sB wh 13 (vs 13) W)
      rw [e13] at hK ⊢
      have e16 : vs 16 = .bool true := (he ⟨16, .data⟩ (by simp) rfl : tlP a rv (.slice A1 n1 k1) (.slice A2 n2 k2) x1 eS sB wh 16 (vs 16) W)
      rw [e16] at hK ⊢
      rw [if_pos (by rfl)]
      simp only [put_someT, List.setIfInBounds_toArray, List.set_cons_zero, List.set_cons_succ] at hK
      have HK := Lib.hid hK
      clear hK he hi hBW
      go_simp
      exact HK.out _ _ (by first | rfl | simp [tlP]) (Below.refl _ _)
    · simp only [List.getElem?_toArray, List.getElem?_cons_zero, List.getElem?_cons_succ, Option.some.injEq] at ho
      subst ho
      have e17 : vs 17 = .bool true := (he ⟨17, .data⟩ (by simp) rfl : tlP a rv (.slice A1 n1 k1) (.slice A2 n2 k2) x1 eS sB wh 17 (vs 17) W)
      rw [e17] at hK ⊢
      rw [if_pos (by rfl)]
      simp only [put_someT, List.setIfInBounds_toArray, List.set_cons_zero, List.set_cons_succ] at hK
      have HK := Lib.hid hK
      clear hK he hi hBW
      go_simp
      exact HK.out _ _ (by first | rfl | simp [tlP]) (Below.refl _ _)
    · simp only [List.getElem?_toArray, List.getElem?_cons_zero, List.getElem?_cons_succ, Option.some.injEq] at ho
      subst ho
      have e18 : vs 18 = .bool true := (he ⟨18, .guard⟩ (by simp) rfl : tlP a rv (.slice A1 n1 k1) (.slice A2 n2 k2) x1 eS sB wh 18 (vs 18) W)
      rw [e18] at hK ⊢
      rw [if_pos (by rfl)]
      simp only [put_someT, List.setIfInBounds_toArray, List.set_cons_zero, List.set_cons_succ] at hK
      have HK := Lib.hid hK
      clear hK he hi hBW
      obtain ⟨⟨c0, c1, c2, c3, c4, c5, c6⟩, _, _⟩ := XW.out.box
      go_simp
      exact HK.out _ _ rfl (Below.refl _ _)
    · simp only [List.getElem?_toArray, List.getElem?_cons_zero, List.getElem?_cons_succ, Option.some.injEq] at ho
      subst ho
      have e19 : vs 19 = .agg #[.int .u8 a.kind, .string (bs a.dep.name), .int .u8 a.dep.op, .int .i64 a.dep.evr.epoch, .string (bs a.dep.evr.ver), .string (bs a.dep.evr.rel), .slice a.addr a.args.length a.cap] := (he ⟨19, .data⟩ (by simp) rfl : tlP a rv (.slice A1 n1 k1) (.slice A2 n2 k2) x1 eS sB wh 19 (vs 19) W)
      rw [e19] at hK ⊢
      have e18 : vs 18 = .bool true := (he ⟨18, .guard⟩ (by simp) rfl : tlP a rv (.slice A1 n1 k1) (.slice A2 n2 k2) x1 eS sB wh 18 (vs 18) W)
      rw [e18] at hK ⊢
      rw [if_pos (by rfl)]
      simp only [put_someT, List.setIfInBounds_toArray, List.set_cons_zero, List.set_cons_succ] at hK
      have HK := Lib.hid hK
      clear hK he hi hBW
      go_simp
      go_at_call 34
      refine (H1.out _ BW.out HP.out XW.out.tree).mono ?_
      rintro en w9 ⟨rfl, h⟩
      go_simp
      exact HK.out _ _ rfl h
    · simp only [List.getElem?_toArray, List.getElem?_cons_zero, List.getElem?_cons_succ, Option.some.injEq] at ho
      subst ho
      have e18 : vs 18 = .bool true := (he ⟨18, .guard⟩ (by simp) rfl : tlP a rv (.slice A1 n1 k1) (.slice A2 n2 k2) x1 eS sB wh 18 (vs 18) W)
      rw [e18] at hK ⊢
      rw [if_pos (by rfl)]
      simp only [put_someT, List.setIfInBounds_toArray, List.set_cons_zero, List.set_cons_succ] at hK
      have HK := Lib.hid hK
      clear hK he hi hBW
      obtain ⟨⟨c0, c1, c2, c3, c4, c5, c6⟩, _, _⟩ := XW.out.box
      go_simp
      exact HK.out _ _ rfl (Below.refl _ _)
    · simp only [List.getElem?_toArray, List.getElem?_cons_zero, List.getElem?_cons_succ, Option.some.injEq] at ho
      subst ho
      have e21 : vs 21 = .agg #[.int .u8 a.kind, .string (bs a.dep.name), .int .u8 a.dep.op, .int .i64 a.dep.evr.epoch, .string (bs a.dep.evr.ver), .string (bs a.dep.evr.rel), .slice a.addr a.args.length a.cap] := (he ⟨21, .data⟩ (by simp) rfl : tlP a rv (.slice A1 n1 k1) (.slice A2 n2 k2) x1 eS sB wh 21 (vs 21) W)
      rw [e21] at hK ⊢
      have e18 : vs 18 = .bool true := (he ⟨18, .guard⟩ (by simp) rfl : tlP a rv (.slice A1 n1 k1) (.slice A2 n2 k2) x1 eS sB wh 18 (vs 18) W)
      rw [e18] at hK ⊢
      rw [if_pos (by rfl)]
      simp only [put_someT, List.setIfInBounds_toArray, List.set_cons_zero, List.set_cons_succ] at hK
      have HK := Lib.hid hK
      clear hK he hi hBW
      go_simp
      go_at_call 35
      refine (H2.out _ HP.out XW.out.tree).mono ?_
      rintro en w9 ⟨rfl, h⟩
      go_simp
      exact HK.out _ _ rfl h
    · simp only [List.getElem?_toArray, List.getElem?_cons_zero, List.getElem?_cons_succ, Option.some.injEq] at ho
      subst ho
      have e20 : vs 20 = .bool wh := (he ⟨20, .data⟩ (by simp) rfl : tlP a rv (.slice A1 n1 k1) (.slice A2 n2 k2) x1 eS sB wh 20 (vs 20) W)
      rw [e20] at hK ⊢
      have e22 : vs 22 = .bool wh := (he ⟨22, .data⟩ (by simp) rfl : tlP a rv (.slice A1 n1 k1) (.slice A2 n2 k2) x1 eS sB wh 22 (vs 22) W)
      rw [e22] at hK ⊢
      have e18 : vs 18 = .bool true := (he ⟨18, .guard⟩ (by simp) rfl : tlP a rv (.slice A1 n1 k1) (.slice A2 n2 k2) x1 eS sB wh 18 (vs 18) W)
      rw [e18] at hK ⊢
      rw [if_pos (by rfl)]
      simp only [put_someT, List.setIfInBounds_toArray, List.set_cons_zero, List.set_cons_succ] at hK
      have HK := Lib.hid hK
      clear hK he hi hBW
      go_simp
      exact HK.out _ _ (by first | rfl | simp [tlP]) (Below.refl _ _)
    · simp only [List.getElem?_toArray, List.getElem?_cons_zero, List.getElem?_cons_succ, Option.some.injEq] at ho
      subst ho
      have e18 : vs 18 = .bool true := (he ⟨18, .data⟩ (by simp) rfl : tlP a rv (.slice A1 n1 k1) (.slice A2 n2 k2) x1 eS sB wh 18 (vs 18) W)
      rw [e18] at hK ⊢
      have e23 : vs 23 = .bool true := (he ⟨23, .data⟩ (by simp) rfl : tlP a rv (.slice A1 n1 k1) (.slice A2 n2 k2) x1 eS sB wh 23 (vs 23) W)
      rw [e23] at hK ⊢
      rw [if_pos (by rfl)]
      simp only [put_someT, List.setIfInBounds_toArray, List.set_cons_zero, List.set_cons_succ] at hK
      have HK := Lib.hid hK
      clear hK he hi hBW
      go_simp
      exact HK.out _ _ (by first | rfl | simp [tlP]) (Below.refl _ _)
    · simp only [List.getElem?_toArray, List.getElem?_cons_zero, List.getElem?_cons_succ, Option.some.injEq] at ho
      subst ho
      have e24 : vs 24 = .bool true := (he ⟨24, .data⟩ (by simp) rfl : tlP a rv (.slice A1 n1 k1) (.slice A2 n2 k2) x1 eS sB wh 24 (vs 24) W)
      rw [e24] at hK ⊢
      rw [if_pos (by rfl)]
      simp only [put_someT, List.setIfInBounds_toArray, List.set_cons_zero, List.set_cons_succ] at hK
      have HK := Lib.hid hK
      clear hK he hi hBW
      go_simp
      exact HK.out _ _ (by first | rfl | simp [tlP]) (Below.refl _ _)
    · simp only [List.getElem?_toArray, List.getElem?_cons_zero, List.getElem?_cons_succ, Option.some.injEq] at ho
      subst ho
      have e25 : vs 25 = .bool true := (he ⟨25, .guard⟩ (by simp) rfl : tlP a rv (.slice A1 n1 k1) (.slice A2 n2 k2) x1 eS sB wh 25 (vs 25) W)
      rw [e25] at hK ⊢
      rw [if_pos (by rfl)]
      simp only [put_someT, List.setIfInBounds_toArray, List.set_cons_zero, List.set_cons_succ] at hK
      have HK := Lib.hid hK
      clear hK he hi hBW
      obtain ⟨⟨c0, c1, c2, c3, c4, c5, c6⟩, _, _⟩ := XW.out.box
      go_simp
      exact HK.out _ _ rfl (Below.refl _ _)
    · simp only [List.getElem?_toArray, List.getElem?_cons_zero, List.getElem?_cons_succ, Option.some.injEq] at ho
      subst ho
      have e25 : vs 25 = .bool true := (he ⟨25, .guard⟩ (by simp) rfl : tlP a rv (.slice A1 n1 k1) (.slice A2 n2 k2) x1 eS sB wh 25 (vs 25) W)
      rw [e25] at hK ⊢
      rw [if_pos (by rfl)]
      simp only [put_someT, List.setIfInBounds_toArray, List.set_cons_zero, List.set_cons_succ] at hK
      have HK := Lib.hid hK
      clear hK he hi hBW
      obtain ⟨⟨c0, c1, c2, c3, c4, c5, c6⟩, _, _⟩ := YW.out.box
      go_simp
      exact HK.out _ _ rfl (Below.refl _ _)
    · simp only [List.getElem?_toArray, List.getElem?_cons_zero, List.getElem?_cons_succ, Option.some.injEq] at ho
      subst ho
      have e26 : vs 26 = .agg #[.int .u8 a.kind, .string (bs a.dep.name), .int .u8 a.dep.op, .int .i64 a.dep.evr.epoch, .string (bs a.dep.evr.ver), .string (bs a.dep.evr.rel), .slice a.addr a.args.length a.cap] := (he ⟨26, .data⟩ (by simp) rfl : tlP a rv (.slice A1 n1 k1) (.slice A2 n2 k2) x1 eS sB wh 26 (vs 26) W)
      rw [e26] at hK ⊢
      have e27 : vs 27 = .agg #[.int .u8 rv.kind, .string (bs rv.dep.name), .int .u8 rv.dep.op, .int .i64 rv.dep.evr.epoch, .string (bs rv.dep.evr.ver), .string (bs rv.dep.evr.rel), .slice rv.addr rv.args.length rv.cap] := (he ⟨27, .data⟩ (by simp) rfl : tlP a rv (.slice A1 n1 k1) (.slice A2 n2 k2) x1 eS sB wh 27 (vs 27) W)
      rw [e27] at hK ⊢
      have e25 : vs 25 = .bool true := (he ⟨25, .guard⟩ (by simp) rfl : tlP a rv (.slice A1 n1 k1) (.slice A2 n2 k2) x1 eS sB wh 25 (vs 25) W)
      rw [e25] at hK ⊢
      rw [if_pos (by rfl)]
      simp only [put_someT, List.setIfInBounds_toArray, List.set_cons_zero, List.set_cons_succ] at hK
      have HK := Lib.hid hK
      clear hK he hi hBW
      have SS := Lib.hid (show sameT a.tree rv.tree = true by rw [HRT.out]; exact sameT_self _)
      go_simp
      go_at_call 36
      refine (SM.out rv _ XW.out.tree YW.out.tree).mono ?_
      rintro en w9 ⟨rfl, h⟩
      rw [SS.out]
      go_simp
      exact HK.out _ _ rfl h
    · simp only [List.getElem?_toArray, List.getElem?_cons_zero, List.getElem?_cons_succ, Option.some.injEq] at ho
      subst ho
      have e25 : vs 25 = .bool true := (he ⟨25, .data⟩ (by simp) rfl : tlP a rv (.slice A1 n1 k1) (.slice A2 n2 k2) x1 eS sB wh 25 (vs 25) W)
      rw [e25] at hK ⊢
      have e28 : vs 28 = .bool true := (he ⟨28, .data⟩ (by simp) rfl : tlP a rv (.slice A1 n1 k1) (.slice A2 n2 k2) x1 eS sB wh 28 (vs 28) W)
      rw [e28] at hK ⊢
      rw [if_pos (by rfl)]
      simp only [put_someT, List.setIfInBounds_toArray, List.set_cons_zero, List.set_cons_succ] at hK
      have HK := Lib.hid hK
      clear hK he hi hBW
      go_simp
      exact HK.out _ _ (by first | rfl | simp [tlP]) (Below.refl _ _)
    · simp only [List.getElem?_toArray, List.getElem?_cons_zero, List.getElem?_cons_succ, Option.some.injEq] at ho
      subst ho
      have e29 : vs 29 = .bool true := (he ⟨29, .data⟩ (by simp) rfl : tlP a rv (.slice A1 n1 k1) (.slice A2 n2 k2) x1 eS sB wh 29 (vs 29) W)
      rw [e29] at hK ⊢
      rw [if_pos (by rfl)]
      simp only [put_someT, List.setIfInBounds_toArray, List.set_cons_zero, List.set_cons_succ] at hK
      have HK := Lib.hid hK
      clear hK he hi hBW
      go_simp
      exact HK.out _ _ (by first | rfl | simp [tlP]) (Below.refl _ _)
    · simp only [List.getElem?_toArray, List.getElem?_cons_zero, List.getElem?_cons_succ, Option.some.injEq] at ho
      subst ho
      have e30 : vs 30 = .bool true := (he ⟨30, .guard⟩ (by simp) rfl : tlP a rv (.slice A1 n1 k1) (.slice A2 n2 k2) x1 eS sB wh 30 (vs 30) W)
      rw [e30] at hK ⊢
      rw [if_pos (by rfl)]
      simp only [put_someT, List.setIfInBounds_toArray, List.set_cons_zero, List.set_cons_succ] at hK
      have HK := Lib.hid hK
      clear hK he hi hBW
      go_simp
      go_at_call 27
      refine (AW.out _ BW.out).mono ?_
      rintro en w9 ⟨rfl, h⟩
      go_simp
      exact HK.out _ _ rfl h
    · simp only [List.getElem?_toArray, List.getElem?_cons_zero, List.getElem?_cons_succ, Option.some.injEq] at ho
      subst ho
      have e30 : vs 30 = .bool true := (he ⟨30, .data⟩ (by simp) rfl : tlP a rv (.slice A1 n1 k1) (.slice A2 n2 k2) x1 eS sB wh 30 (vs 30) W)
      rw [e30] at hK ⊢
      have e31 : vs 31 = .bool true := (he ⟨31, .data⟩ (by simp) rfl : tlP a rv (.slice A1 n1 k1) (.slice A2 n2 k2) x1 eS sB wh 31 (vs 31) W)
      rw [e31] at hK ⊢
      rw [if_pos (by rfl)]
      simp only [put_someT, List.setIfInBounds_toArray, List.set_cons_zero, List.set_cons_succ] at hK
      have HK := Lib.hid hK
      clear hK he hi hBW
      go_simp
      exact HK.out _ _ (by first | rfl | simp [tlP]) (Below.refl _ _)
    · simp only [List.getElem?_toArray, List.getElem?_cons_zero, List.getElem?_cons_succ, Option.some.injEq] at ho
      subst ho
      have e32 : vs 32 = .bool true := (he ⟨32, .data⟩ (by simp) rfl : tlP a rv (.slice A1 n1 k1) (.slice A2 n2 k2) x1 eS sB wh 32 (vs 32) W)
      rw [e32] at hK ⊢
      rw [if_pos (by rfl)]
      simp only [put_someT, List.setIfInBounds_toArray, List.set_cons_zero, List.set_cons_succ] at hK
      have HK := Lib.hid hK
      clear hK he hi hBW
      go_simp
      exact HK.out _ _ (by first | rfl | simp [tlP]) (Below.refl _ _)
  · intro vs W hall hBW
    have e33 : vs 33 = .bool true := (hall 33 (by decide) : tlP a rv (.slice A1 n1 k1) (.slice A2 n2 k2) x1 eS sB wh 33 (vs 33) W)
    have BW := B6.out.trans (hBW.mono B6.out.size)
    simp only [fillV, put_someT, List.setIfInBounds_toArray, List.set_cons_zero, List.set_cons_succ]
    rw [e33]
    clear hall hBW
    go_wp2_with fail
    go_ret
    exact ⟨rfl, BW⟩
end Go.Proofs.YtoglbogfoolkaaaGreatDoor
