import Derived.Test.YteobmfpbgnmffaaGreatDoorTruthOneRowX1
set_option linter.unusedSimpArgs false
set_option linter.unusedVariables false
/- TrOne -/
set_option linter.unusedSimpArgs false
set_option linter.unusedVariables false
open List (getElem?_toArray getElem?_cons_zero getElem?_cons_succ setIfInBounds_toArray set_cons_zero set_cons_succ take_succ_cons take_zero)
/- Walk: TruthOne. -/






namespace Go.Proofs.YteobmfpbgnmffaaGreatDoor
open Go.RowKit Go.Shelf
set_option linter.unusedVariables false

def on7T (T m sc : Nat) (SA : Option Addr) (R : RV) (x : Int) (WS LV : List Int) (a b : Bool) (i : Nat) (v : Value) (W : World) : Prop := match i with
  | 0 => v = .bool true
  | 1 => v = .bool true
  | 2 => v = .pointer (some ⟨T, 0, none⟩)
  | 3 => v = .slice SA m sc
  | 4 => v = .agg #[.int .u8 R.kind, .string (bs R.dep.name), .int .u8 R.dep.op, .int .i64 R.dep.evr.epoch, .string (bs R.dep.evr.ver), .string (bs R.dep.evr.rel), .slice R.addr R.args.length R.cap]
  | 5 => v = .bool a
  | 6 => v = .pointer (some ⟨T, 0, none⟩)
  | 7 => v = .slice SA m sc
  | 8 => v = .agg #[.int .u8 R.kind, .string (bs R.dep.name), .int .u8 R.dep.op, .int .i64 R.dep.evr.epoch, .string (bs R.dep.evr.ver), .string (bs R.dep.evr.rel), .slice R.addr R.args.length R.cap]
  | 9 => ∃ A c, v = .slice A (WS).length c ∧ Rd encI 1 W.heap.size A c WS W
  | 10 => v = .int .i64 (WS.length : Int)
  | 11 => v = .bool a
  | 12 => v = .bool false
  | 13 => v = .bool false
  | 14 => v = .bool false
  | 15 => v = .pointer (some ⟨T, 0, none⟩)
  | 16 => v = .slice SA m sc
  | 17 => v = .int .i64 x
  | 18 => v = .agg #[.int .u8 R.kind, .string (bs R.dep.name), .int .u8 R.dep.op, .int .i64 R.dep.evr.epoch, .string (bs R.dep.evr.ver), .string (bs R.dep.evr.rel), .slice R.addr R.args.length R.cap]
  | 19 => v = .bool b
  | 20 => v = .pointer (some ⟨T, 0, none⟩)
  | 21 => v = .slice SA m sc
  | 22 => v = .int .i64 x
  | 23 => ∃ A c, v = .slice A (LV).length c ∧ Rd encI 1 W.heap.size A c LV W
  | 24 => v = .agg #[.int .u8 R.kind, .string (bs R.dep.name), .int .u8 R.dep.op, .int .i64 R.dep.evr.epoch, .string (bs R.dep.evr.ver), .string (bs R.dep.evr.rel), .slice R.addr R.args.length R.cap]
  | 25 => v = .bool b
  | 26 => v = .bool false
  | 27 => v = .bool false
  | _ => False
theorem on7T_mono (T m sc : Nat) (SA : Option Addr) (R : RV) (x : Int) (WS LV : List Int) (a b : Bool) : ∀ i v w w', on7T T m sc SA R x WS LV a b i v w → Below w.heap.size w w' → on7T T m sc SA R x WS LV a b i v w' := by
  intro i v w w' h hb
  match i, h with
  | 0, h => exact h
  | 1, h => exact h
  | 2, h => exact h
  | 3, h => exact h
  | 4, h => exact h
  | 5, h => exact h
  | 6, h => exact h
  | 7, h => exact h
  | 8, h => exact h
  | 9, h => exact h.elim fun A h => h.elim fun c h => ⟨A, c, h.1, (h.2.below hb).more hb.size⟩
  | 10, h => exact h
  | 11, h => exact h
  | 12, h => exact h
  | 13, h => exact h
  | 14, h => exact h
  | 15, h => exact h
  | 16, h => exact h
  | 17, h => exact h
  | 18, h => exact h
  | 19, h => exact h
  | 20, h => exact h
  | 21, h => exact h
  | 22, h => exact h
  | 23, h => exact h.elim fun A h => h.elim fun c h => ⟨A, c, h.1, (h.2.below hb).more hb.size⟩
  | 24, h => exact h
  | 25, h => exact h
  | 26, h => exact h
  | 27, h => exact h
  | (k + 28), h => exact h.elim
def on7F (T m sc : Nat) (SA : Option Addr) (R : RV) (x : Int) (WS LV : List Int) (a b : Bool) (i : Nat) (v : Value) (W : World) : Prop := match i with
  | 0 => v = .bool false
  | 1 => v = .bool false
  | 2 => v = undef
  | 3 => v = undef
  | 4 => v = undef
  | 5 => v = undef
  | 6 => v = undef
  | 7 => v = undef
  | 8 => v = undef
  | 9 => v = undef
  | 10 => v = undef
  | 11 => v = undef
  | 12 => v = undef
  | 13 => v = .bool false
  | 14 => v = .bool false
  | 15 => v = .pointer (some ⟨T, 0, none⟩)
  | 16 => v = .slice SA m sc
  | 17 => v = .int .i64 x
  | 18 => v = .agg #[.int .u8 R.kind, .string (bs R.dep.name), .int .u8 R.dep.op, .int .i64 R.dep.evr.epoch, .string (bs R.dep.evr.ver), .string (bs R.dep.evr.rel), .slice R.addr R.args.length R.cap]
  | 19 => v = .bool b
  | 20 => v = .pointer (some ⟨T, 0, none⟩)
  | 21 => v = .slice SA m sc
  | 22 => v = .int .i64 x
  | 23 => ∃ A c, v = .slice A (LV).length c ∧ Rd encI 1 W.heap.size A c LV W
  | 24 => v = .agg #[.int .u8 R.kind, .string (bs R.dep.name), .int .u8 R.dep.op, .int .i64 R.dep.evr.epoch, .string (bs R.dep.evr.ver), .string (bs R.dep.evr.rel), .slice R.addr R.args.length R.cap]
  | 25 => v = .bool b
  | 26 => v = .bool false
  | 27 => v = .bool false
  | _ => False
theorem on7F_mono (T m sc : Nat) (SA : Option Addr) (R : RV) (x : Int) (WS LV : List Int) (a b : Bool) : ∀ i v w w', on7F T m sc SA R x WS LV a b i v w → Below w.heap.size w w' → on7F T m sc SA R x WS LV a b i v w' := by
  intro i v w w' h hb
  match i, h with
  | 0, h => exact h
  | 1, h => exact h
  | 2, h => exact h
  | 3, h => exact h
  | 4, h => exact h
  | 5, h => exact h
  | 6, h => exact h
  | 7, h => exact h
  | 8, h => exact h
  | 9, h => exact h
  | 10, h => exact h
  | 11, h => exact h
  | 12, h => exact h
  | 13, h => exact h
  | 14, h => exact h
  | 15, h => exact h
  | 16, h => exact h
  | 17, h => exact h
  | 18, h => exact h
  | 19, h => exact h
  | 20, h => exact h
  | 21, h => exact h
  | 22, h => exact h
  | 23, h => exact h.elim fun A h => h.elim fun c h => ⟨A, c, h.1, (h.2.below hb).more hb.size⟩
  | 24, h => exact h
  | 25, h => exact h
  | 26, h => exact h
  | 27, h => exact h
  | (k + 28), h => exact h.elim
def on11 (T : Nat) (R : RV) (x : Int) (b : Bool) (i : Nat) (v : Value) (W : World) : Prop := match i with
  | 0 => v = .pointer (some ⟨T, 0, none⟩)
  | 1 => v = .int .i64 x
  | 2 => ∃ A c, v = .slice A ([x]).length c ∧ Rd encI 1 W.heap.size A c [x] W
  | 3 => v = .agg #[.int .u8 R.kind, .string (bs R.dep.name), .int .u8 R.dep.op, .int .i64 R.dep.evr.epoch, .string (bs R.dep.evr.ver), .string (bs R.dep.evr.rel), .slice R.addr R.args.length R.cap]
  | 4 => v = .bool b
  | 5 => v = .pointer (some ⟨T, 0, none⟩)
  | 6 => v = .int .i64 x
  | 7 => v = .agg #[.int .u8 R.kind, .string (bs R.dep.name), .int .u8 R.dep.op, .int .i64 R.dep.evr.epoch, .string (bs R.dep.evr.ver), .string (bs R.dep.evr.rel), .slice R.addr R.args.length R.cap]
  | 8 => v = .bool b
  | 9 => v = .bool true
  | 10 => v = .bool true
  | _ => False
theorem on11_mono (T : Nat) (R : RV) (x : Int) (b : Bool) : ∀ i v w w', on11 T R x b i v w → Below w.heap.size w w' → on11 T R x b i v w' := by
  intro i v w w' h hb
  match i, h with
  | 0, h => exact h
  | 1, h => exact h
  | 2, h => exact h.elim fun A h => h.elim fun c h => ⟨A, c, h.1, (h.2.below hb).more hb.size⟩
  | 3, h => exact h
  | 4, h => exact h
  | 5, h => exact h
  | 6, h => exact h
  | 7, h => exact h
  | 8, h => exact h
  | 9, h => exact h
  | 10, h => exact h
  | (k + 11), h => exact h.elim
theorem alone_out {N : Nat} {pv : Nat → Dp → Bool} {x : Int} {t : RT} (h : x < 0 ∨ (N : Int) ≤ x) : Tr.aloneS N pv x t = false := by
  unfold Tr.aloneS
  rcases h with h | h
  · rw [decide_eq_false (by omega : ¬ 0 ≤ x)]; rfl
  · rw [decide_eq_false (by omega : ¬ x < (N : Int)), Bool.and_false]; rfl
set_option maxRecDepth 100000 in
set_option maxHeartbeats 16000000 in
theorem truthOne_row (w : World) (hI : WhIn w) (RA : Option Addr) (rc : Nat) (repos : List Rp) (hr : RpRow w.heap.size w RA rc repos) (hrq : ∀ r ∈ repos, ∀ p ∈ r.pk, PkQ w p) (IA : Option Addr) (ic : Nat) (ins : List Pk) (hi : PRow w.heap.size w IA ic ins) (hiq : ∀ p ∈ ins, PkQ w p) (SA : Option Addr) (sc : Nat) (S : List Int) (hS : Rd encI 1 w.heap.size SA sc S w ∧ (∀ z ∈ S, (Lit.int .i64 z).wf = true) ∧ S.length ≤ 1000000000000000) (x : Int) (hxw : (Lit.int .i64 x).wf = true) (R : RV) (hR : RTree w.heap.size w R) : Calls Tryz.prog 11 #[.slice RA repos.length rc, .slice IA ins.length ic, .slice SA S.length sc, .int .i64 x, R.val] w fun e w' => e = .returned (.bool true) ∧ Below w.heap.size w w' := by
  obtain ⟨hS, hSw, hSl⟩ := hS
  have b1 := (Below.refl w.heap.size w).alloc (Nat.le_refl _) (.cells #[.int .u8 R.kind, .string (bs R.dep.name), .int .u8 R.dep.op, .int .i64 R.dep.evr.epoch, .string (bs R.dep.evr.ver), .string (bs R.dep.evr.rel), .slice R.addr R.args.length R.cap] 39)
  have RB := RBx.new R w
  have WD := Lib.hid (fun W (hb : Below w.heap.size w W) => wide14_any RA rc repos IA ic ins SA S.length sc R W (hr.calls hb) (hi.calls hb) ((hR.keeps hb).more hb.size))
  have AW := Lib.hid (fun W (hb : Below w.heap.size w W) => tawake_any W (hI.below hb))
  have MD := Lib.hid (fun (k : Int) (hn : Narrow repos ins k) W (hb : Below w.heap.size w W) => made14_any (w0 := w) (hI.1.below hb) (hr.calls hb) (hi.calls hb) hn hrq hiq)
  have TM0 := Lib.hid (fun W (hb : Below w.heap.size w W) => show WhIn W ∧ RTree W.heap.size W R ∧ Rd encI 1 W.heap.size SA sc S W from ⟨hI.below hb, (hR.keeps hb).more hb.size, (hS.below hb).more hb.size⟩)
  have SW := Lib.hid (fun (h : R.kind = 1 ∨ R.kind = 6 ∨ R.kind = 7) N (pv : Nat → Dp → Bool) => Tr.single_who (N := N) (pv := pv) (S := S) (t := R.tree) (by rw [tree_parts R]; exact h))
  unfold RV.val at *
  obtain ⟨m, hm⟩ : ∃ m, S.length = m := ⟨_, rfl⟩
  rw [hm] at WD ⊢
  have HM := Lib.hid hm
  clear hI hr hrq hi hiq hS hSw hSl hR hm
  have B1 := Lib.hid b1
  have RBV := Lib.hid RB
  clear b1 RB
  go_enter Tryz.func11, Tryz.ntmps11
  go_wp2_with fail
  obtain ⟨V, hV⟩ : ∃ V, V = w.alloc (.cells #[.int .u8 R.kind, .string (bs R.dep.name), .int .u8 R.dep.op, .int .i64 R.dep.evr.epoch, .string (bs R.dep.evr.ver), .string (bs R.dep.evr.rel), .slice R.addr R.args.length R.cap] 39) := ⟨_, rfl⟩
  rw [← hV] at B1 RBV ⊢
  clear hV
  go_at_call 36
  refine (WD.out V B1.out).mono ?_
  rintro en w1 ⟨r, rfl, hn, h⟩
  have B2 := Lib.hid (B1.out.trans (h.mono B1.out.size))
  have RB2 := Lib.hid (RBV.out.then h)
  have HNR := Lib.hid hn
  have AW1 := AW.out w1 B2.out
  clear h hn WD B1 RBV
  cases r
  rotate_left
  · go_wp2_with fail
    go_at_call 37
    refine AW1.mono ?_
    rintro en w9 ⟨rfl, h⟩
    have B9 := Lib.hid (B2.out.trans (h.mono B2.out.size))
    clear h
    go_wp2_with fail
    go_ret
    exact ⟨rfl, B9.out⟩
  have NW := Lib.hid (HNR.out rfl)
  clear HNR
  have hs200 : m ≤ 200 := by have := NW.out.1.nk; have := HM.out; omega
  go_wp2_with fail
  go_at_call 37
  refine AW1.mono ?_
  rintro en w2 ⟨rfl, h⟩
  have B3 := Lib.hid (B2.out.trans (h.mono B2.out.size))
  have RB3 := Lib.hid (RB2.out.then h)
  clear h B2 RB2 AW AW1
  go_wp2_with fail
  go_at_call 38
  refine (MD.out _ NW.out.1 w2 B3.out).mono ?_
  rintro en w3 ⟨hcase, h⟩
  have B6 := Lib.hid (B3.out.trans (h.mono B3.out.size))
  have RB6 := Lib.hid (RB3.out.then h)
  clear h MD B3 RB3
  rcases hcase with ⟨T, X, P, L, L2, rfl, ht, hpo, _, hL⟩ | rfl
  rotate_left
  · go_wp2_with fail
    go_ret
    exact ⟨rfl, B6.out⟩
  have T6 := Lib.hid ht
  have P6 := Lib.hid hpo
  have NL := Lib.hid hL
  clear ht hpo hL
  obtain ⟨N, hN⟩ : ∃ N, L.length = N := ⟨_, rfl⟩
  rw [hN] at T6 NL
  have CNT := Lib.hid (fun W (hb : Below w3.heap.size w3 W) => hN ▸ poolcount_any (P6.out.then hb).at_)
  clear hN P6
  obtain ⟨sg, hsg⟩ : ∃ sg, sg = (R.kind == 1 || R.kind == 6 || R.kind == 7) := ⟨_, rfl⟩
  have HSG := Lib.hid hsg
  clear hsg
  go_upto_region 6 with fail
  go_cut [14] from 34 to 46 (fun a W' => a = .bool sg ∧ w3 = W')
  case first =>
    obtain ⟨_, c0, c1, c2, c3, c4, c5, c6⟩ := RB6.out
    by_cases h1 : R.kind = 1
    · have HE := Lib.hid (show sg = true by rw [HSG.out, h1]; rfl)
      rw [h1] at c0
      go_wp2_with fail
      go_meet
      exact ⟨by rw [HE.out], rfl⟩
    have k1 : (R.kind == 1) = false := beq_eq_false_iff_ne.2 h1
    by_cases h6 : R.kind = 6
    · have HE := Lib.hid (show sg = true by rw [HSG.out, h6]; rfl)
      rw [h6] at c0
      clear k1 h1
      go_wp2_with fail
      go_meet
      exact ⟨by rw [HE.out], rfl⟩
    have k6 : (R.kind == 6) = false := beq_eq_false_iff_ne.2 h6
    by_cases h7 : R.kind = 7
    · have HE := Lib.hid (show sg = true by rw [HSG.out, h7]; rfl)
      rw [h7] at c0
      clear k1 h1 k6 h6
      go_wp2_with fail
      go_meet
      exact ⟨by rw [HE.out], rfl⟩
    have k7 : (R.kind == 7) = false := beq_eq_false_iff_ne.2 h7
    have HE := Lib.hid (show sg = false by rw [HSG.out, k1, k6, k7]; rfl)
    go_wp2_with fail
    go_meet
    exact ⟨by rw [HE.out], rfl⟩
  case rest =>
    obtain ⟨rfl, rfl⟩ := hcut
    obtain ⟨a, ha⟩ : ∃ a, a = Tr.satS N (pvL L2) S R.tree := ⟨_, rfl⟩
    obtain ⟨LV, hLV⟩ : ∃ LV, LV = lessV S x := ⟨_, rfl⟩
    obtain ⟨b, hb9⟩ : ∃ b, b = Tr.satS N (pvL L2) LV R.tree := ⟨_, rfl⟩
    obtain ⟨WS, hWS⟩ : ∃ WS, WS = Tr.whoS N (pvL L2) S R.tree := ⟨_, rfl⟩
    have SAT := Lib.hid (fun W (hb : Below w3.heap.size w3 W) A c S' (hR : Rd encI 1 W.heap.size A c S' W) => tsat_any (T6.out.then hb) (TM0.out W (B6.out.trans (hb.mono B6.out.size))).1 A c S' hR R (TM0.out W (B6.out.trans (hb.mono B6.out.size))).2.1 (by have := NW.out.2; omega))
    have ALN := Lib.hid (fun W (hb : Below w3.heap.size w3 W) => talone_any (T6.out.then hb) (TM0.out W (B6.out.trans (hb.mono B6.out.size))).1 x R (TM0.out W (B6.out.trans (hb.mono B6.out.size))).2.1 (by have := NW.out.2; omega))
    have SA5 := Lib.hid (fun W (hb : Below w3.heap.size w3 W) => ha ▸ HM.out ▸ SAT.out W hb SA sc S (TM0.out W (B6.out.trans (hb.mono B6.out.size))).2.2)
    have SB9 := Lib.hid (fun W (hb : Below w3.heap.size w3 W) A c (hR : Rd encI 1 W.heap.size A c LV W) => hb9 ▸ SAT.out W hb A c LV hR)
    have WO9 := Lib.hid (fun W (hb : Below w3.heap.size w3 W) => show Calls Tryz.prog 53 #[.pointer (some ⟨T, 0, none⟩), .slice SA m sc, .int .i64 x, .agg #[.int .u8 R.kind, .string (bs R.dep.name), .int .u8 R.dep.op, .int .i64 R.dep.evr.epoch, .string (bs R.dep.evr.ver), .string (bs R.dep.evr.rel), .slice R.addr R.args.length R.cap]] W fun e w' => e = .returned (.bool b) ∧ Below W.heap.size W w' from by
      have q := twithout_any (T6.out.then hb) (TM0.out W (B6.out.trans (hb.mono B6.out.size))).1 SA sc S (TM0.out W (B6.out.trans (hb.mono B6.out.size))).2.2 (by have := HM.out; omega) x R (TM0.out W (B6.out.trans (hb.mono B6.out.size))).2.1 (by have := NW.out.2; omega)
      rw [← hLV, ← hb9, HM.out] at q
      exact q)
    have WH9 := Lib.hid (fun W (hb : Below w3.heap.size w3 W) => show Calls Tryz.prog 41 #[.pointer (some ⟨T, 0, none⟩), .slice SA m sc, .agg #[.int .u8 R.kind, .string (bs R.dep.name), .int .u8 R.dep.op, .int .i64 R.dep.evr.epoch, .string (bs R.dep.evr.ver), .string (bs R.dep.evr.rel), .slice R.addr R.args.length R.cap]] W fun e w' => ∃ A c, e = .returned (.slice A WS.length c) ∧ Rd encI 1 w'.heap.size A c WS w' ∧ Below W.heap.size W w' from by
      have hw := B6.out.trans (hb.mono B6.out.size)
      have q := twho_any (T6.out.then hb) (TM0.out W hw).1 SA sc S (TM0.out W hw).2.2 R (TM0.out W hw).2.1 (by have := NW.out.2; omega)
      rw [HM.out] at q
      refine q.mono ?_
      rintro e w' ⟨v, rfl, ho, h⟩
      obtain ⟨A, c, rfl, hr⟩ := ho.rd encI_len
      rw [hWS]
      exact ⟨A, c, rfl, hr, h⟩)
    have LE9 := Lib.hid (fun W (hb : Below w3.heap.size w3 W) => show Calls Tryz.prog 60 #[.slice SA m sc, .int .i64 x] W fun e w' => ∃ A c, e = .returned (.slice A LV.length c) ∧ Rd encI 1 w'.heap.size A c LV w' ∧ Below W.heap.size W w' from by
      have q := less14_any SA sc S x W (by have := HM.out; omega) (TM0.out W (B6.out.trans (hb.mono B6.out.size))).2.2
      rw [HM.out] at q
      refine q.mono ?_
      rintro e w' ⟨v, rfl, ho, h⟩
      obtain ⟨A, c, rfl, hr⟩ := ho.rd encI_len
      rw [hLV]
      exact ⟨A, c, rfl, hr, h⟩)
    have HDN := Lib.hid (fun (h : sg = true) => show decide (0 < WS.length) = a from by rw [ha, hWS]; exact (SW.out (by have q := HSG.out; rw [h] at q; simpa [or_assoc] using q.symm) N (pvL L2)).symm)
    have HAL1 := Lib.hid (fun (h : x < 0 ∨ (N : Int) ≤ x) => show Tr.aloneS N (pvL L2) x R.tree = false from alone_out h)
    have HAL2 := Lib.hid (fun (h1 : 0 ≤ x) (h2 : x < (N : Int)) => show Tr.aloneS N (pvL L2) x R.tree = Tr.satS N (pvL L2) [x] R.tree from by unfold Tr.aloneS; rw [decide_eq_true h1, decide_eq_true h2]; rfl)
    unfold RV.val at SA5 SB9 SAT ALN
    clear ha hLV hb9 hWS SW HSG
    go_wp2_with fail
    cases sg
    · clear HDN
      refine wp_region_tail (PP := on7F T m sc SA R x WS LV a b) 28 rfl (by kernel_rfl) (by kernel_rfl) (by decide) (by decide) (on7F_mono T m sc SA R x WS LV a b) (fun _ => undef) (by simp [fillV, put_someT, setIfInBounds_toArray, set_cons_zero, set_cons_succ]) ?_ ?_
      · intro i o vs W hi ho he hBW K hK
        simp only [take_succ_cons, take_zero, fillV, put_someT, setIfInBounds_toArray, set_cons_zero, set_cons_succ] at hK ⊢
        have BW := Lib.hid hBW
        have RBW := Lib.hid (RB6.out.then hBW)
        obtain rfl | rfl | rfl | rfl | rfl | rfl | rfl | rfl | rfl | rfl | rfl | rfl | rfl | rfl | rfl | rfl | rfl | rfl | rfl | rfl | rfl | rfl | rfl | rfl | rfl | rfl | rfl | rfl := (show i = 0 ∨ i = 1 ∨ i = 2 ∨ i = 3 ∨ i = 4 ∨ i = 5 ∨ i = 6 ∨ i = 7 ∨ i = 8 ∨ i = 9 ∨ i = 10 ∨ i = 11 ∨ i = 12 ∨ i = 13 ∨ i = 14 ∨ i = 15 ∨ i = 16 ∨ i = 17 ∨ i = 18 ∨ i = 19 ∨ i = 20 ∨ i = 21 ∨ i = 22 ∨ i = 23 ∨ i = 24 ∨ i = 25 ∨ i = 26 ∨ i = 27 by exact (by have : i < 28 := hi; omega))
        · simp only [getElem?_toArray, getElem?_cons_zero, getElem?_cons_succ, Option.some.injEq] at ho
          subst ho
          rw [if_pos (by rfl)]
          simp only [put_someT, setIfInBounds_toArray, set_cons_zero, set_cons_succ] at hK
          have HK := Lib.hid hK
          clear hK he hi hBW
          go_simp
          exact HK.out _ _ (by first | rfl | simp [on7F]) (Below.refl _ _)
        · simp only [getElem?_toArray, getElem?_cons_zero, getElem?_cons_succ, Option.some.injEq] at ho
          subst ho
          have e0 : vs 0 = .bool false := (he ⟨0, .data⟩ (by simp) rfl : on7F T m sc SA R x WS LV a b 0 (vs 0) W)
          rw [e0] at hK ⊢
          rw [if_pos (by rfl)]
          simp only [put_someT, setIfInBounds_toArray, set_cons_zero, set_cons_succ] at hK
          have HK := Lib.hid hK
          clear hK he hi hBW
          go_simp
          exact HK.out _ _ (by first | rfl | simp [on7F]) (Below.refl _ _)
        · simp only [getElem?_toArray, getElem?_cons_zero, getElem?_cons_succ, Option.some.injEq] at ho
          subst ho
          have e1 : vs 1 = .bool false := (he ⟨1, .guard⟩ (by simp) rfl : on7F T m sc SA R x WS LV a b 1 (vs 1) W)
          rw [e1] at hK ⊢
          rw [if_neg (by exact Bool.false_ne_true)]
          exact hK _ _ rfl (Below.refl _ _)
        · simp only [getElem?_toArray, getElem?_cons_zero, getElem?_cons_succ, Option.some.injEq] at ho
          subst ho
          have e1 : vs 1 = .bool false := (he ⟨1, .guard⟩ (by simp) rfl : on7F T m sc SA R x WS LV a b 1 (vs 1) W)
          rw [e1] at hK ⊢
          rw [if_neg (by exact Bool.false_ne_true)]
          exact hK _ _ rfl (Below.refl _ _)
        · simp only [getElem?_toArray, getElem?_cons_zero, getElem?_cons_succ, Option.some.injEq] at ho
          subst ho
          have e1 : vs 1 = .bool false := (he ⟨1, .guard⟩ (by simp) rfl : on7F T m sc SA R x WS LV a b 1 (vs 1) W)
          rw [e1] at hK ⊢
          rw [if_neg (by exact Bool.false_ne_true)]
          exact hK _ _ rfl (Below.refl _ _)
        · simp only [getElem?_toArray, getElem?_cons_zero, getElem?_cons_succ, Option.some.injEq] at ho
          subst ho
          have e2 : vs 2 = undef := (he ⟨2, .data⟩ (by simp) rfl : on7F T m sc SA R x WS LV a b 2 (vs 2) W)
          rw [e2] at hK ⊢
          have e3 : vs 3 = undef := (he ⟨3, .data⟩ (by simp) rfl : on7F T m sc SA R x WS LV a b 3 (vs 3) W)
          rw [e3] at hK ⊢
          have e4 : vs 4 = undef := (he ⟨4, .data⟩ (by simp) rfl : on7F T m sc SA R x WS LV a b 4 (vs 4) W)
          rw [e4] at hK ⊢
          have e1 : vs 1 = .bool false := (he ⟨1, .guard⟩ (by simp) rfl : on7F T m sc SA R x WS LV a b 1 (vs 1) W)
          rw [e1] at hK ⊢
          rw [if_neg (by exact Bool.false_ne_true)]
          exact hK _ _ rfl (Below.refl _ _)
        · simp only [getElem?_toArray, getElem?_cons_zero, getElem?_cons_succ, Option.some.injEq] at ho
          subst ho
          have e1 : vs 1 = .bool false := (he ⟨1, .guard⟩ (by simp) rfl : on7F T m sc SA R x WS LV a b 1 (vs 1) W)
          rw [e1] at hK ⊢
          rw [if_neg (by exact Bool.false_ne_true)]
          exact hK _ _ rfl (Below.refl _ _)
        · simp only [getElem?_toArray, getElem?_cons_zero, getElem?_cons_succ, Option.some.injEq] at ho
          subst ho
          have e1 : vs 1 = .bool false := (he ⟨1, .guard⟩ (by simp) rfl : on7F T m sc SA R x WS LV a b 1 (vs 1) W)
          rw [e1] at hK ⊢
          rw [if_neg (by exact Bool.false_ne_true)]
          exact hK _ _ rfl (Below.refl _ _)
        · simp only [getElem?_toArray, getElem?_cons_zero, getElem?_cons_succ, Option.some.injEq] at ho
          subst ho
          have e1 : vs 1 = .bool false := (he ⟨1, .guard⟩ (by simp) rfl : on7F T m sc SA R x WS LV a b 1 (vs 1) W)
          rw [e1] at hK ⊢
          rw [if_neg (by exact Bool.false_ne_true)]
          exact hK _ _ rfl (Below.refl _ _)
        · simp only [getElem?_toArray, getElem?_cons_zero, getElem?_cons_succ, Option.some.injEq] at ho
          subst ho
          have e6 : vs 6 = undef := (he ⟨6, .data⟩ (by simp) rfl : on7F T m sc SA R x WS LV a b 6 (vs 6) W)
          rw [e6] at hK ⊢
          have e7 : vs 7 = undef := (he ⟨7, .data⟩ (by simp) rfl : on7F T m sc SA R x WS LV a b 7 (vs 7) W)
          rw [e7] at hK ⊢
          have e8 : vs 8 = undef := (he ⟨8, .data⟩ (by simp) rfl : on7F T m sc SA R x WS LV a b 8 (vs 8) W)
          rw [e8] at hK ⊢
          have e1 : vs 1 = .bool false := (he ⟨1, .guard⟩ (by simp) rfl : on7F T m sc SA R x WS LV a b 1 (vs 1) W)
          rw [e1] at hK ⊢
          rw [if_neg (by exact Bool.false_ne_true)]
          exact hK _ _ rfl (Below.refl _ _)
        · simp only [getElem?_toArray, getElem?_cons_zero, getElem?_cons_succ, Option.some.injEq] at ho
          subst ho
          have e9 : vs 9 = undef := (he ⟨9, .data⟩ (by simp) rfl : on7F T m sc SA R x WS LV a b 9 (vs 9) W)
          rw [e9] at hK ⊢
          have e1 : vs 1 = .bool false := (he ⟨1, .guard⟩ (by simp) rfl : on7F T m sc SA R x WS LV a b 1 (vs 1) W)
          rw [e1] at hK ⊢
          rw [if_neg (by exact Bool.false_ne_true)]
          exact hK _ _ rfl (Below.refl _ _)
        · simp only [getElem?_toArray, getElem?_cons_zero, getElem?_cons_succ, Option.some.injEq] at ho
          subst ho
          have e10 : vs 10 = undef := (he ⟨10, .data⟩ (by simp) rfl : on7F T m sc SA R x WS LV a b 10 (vs 10) W)
          rw [e10] at hK ⊢
          have e1 : vs 1 = .bool false := (he ⟨1, .guard⟩ (by simp) rfl : on7F T m sc SA R x WS LV a b 1 (vs 1) W)
          rw [e1] at hK ⊢
          rw [if_neg (by exact Bool.false_ne_true)]
          exact hK _ _ rfl (Below.refl _ _)
        · simp only [getElem?_toArray, getElem?_cons_zero, getElem?_cons_succ, Option.some.injEq] at ho
          subst ho
          have e5 : vs 5 = undef := (he ⟨5, .data⟩ (by simp) rfl : on7F T m sc SA R x WS LV a b 5 (vs 5) W)
          rw [e5] at hK ⊢
          have e11 : vs 11 = undef := (he ⟨11, .data⟩ (by simp) rfl : on7F T m sc SA R x WS LV a b 11 (vs 11) W)
          rw [e11] at hK ⊢
          have e1 : vs 1 = .bool false := (he ⟨1, .guard⟩ (by simp) rfl : on7F T m sc SA R x WS LV a b 1 (vs 1) W)
          rw [e1] at hK ⊢
          rw [if_neg (by exact Bool.false_ne_true)]
          exact hK _ _ rfl (Below.refl _ _)
        · simp only [getElem?_toArray, getElem?_cons_zero, getElem?_cons_succ, Option.some.injEq] at ho
          subst ho
          have e1 : vs 1 = .bool false := (he ⟨1, .data⟩ (by simp) rfl : on7F T m sc SA R x WS LV a b 1 (vs 1) W)
          rw [e1] at hK ⊢
          have e12 : vs 12 = undef := (he ⟨12, .data⟩ (by simp) rfl : on7F T m sc SA R x WS LV a b 12 (vs 12) W)
          rw [e12] at hK ⊢
          rw [if_pos (by rfl)]
          simp only [put_someT, setIfInBounds_toArray, set_cons_zero, set_cons_succ] at hK
          have HK := Lib.hid hK
          clear hK he hi hBW
          go_simp
          exact HK.out _ _ (by first | rfl | simp [on7F]) (Below.refl _ _)
        · simp only [getElem?_toArray, getElem?_cons_zero, getElem?_cons_succ, Option.some.injEq] at ho
          subst ho
          have e13 : vs 13 = .bool false := (he ⟨13, .data⟩ (by simp) rfl : on7F T m sc SA R x WS LV a b 13 (vs 13) W)
          rw [e13] at hK ⊢
          rw [if_pos (by rfl)]
          simp only [put_someT, setIfInBounds_toArray, set_cons_zero, set_cons_succ] at hK
          have HK := Lib.hid hK
          clear hK he hi hBW
          go_simp
          exact HK.out _ _ (by first | rfl | simp [on7F]) (Below.refl _ _)
        · simp only [getElem?_toArray, getElem?_cons_zero, getElem?_cons_succ, Option.some.injEq] at ho
          subst ho
          have e14 : vs 14 = .bool false := (he ⟨14, .guard⟩ (by simp) rfl : on7F T m sc SA R x WS LV a b 14 (vs 14) W)
          rw [e14] at hK ⊢
          rw [if_pos (by rfl)]
          simp only [put_someT, setIfInBounds_toArray, set_cons_zero, set_cons_succ] at hK
          have HK := Lib.hid hK
          clear hK he hi hBW
          go_simp
          exact HK.out _ _ (by first | rfl | simp [on7F]) (Below.refl _ _)
        · simp only [getElem?_toArray, getElem?_cons_zero, getElem?_cons_succ, Option.some.injEq] at ho
          subst ho
          have e14 : vs 14 = .bool false := (he ⟨14, .guard⟩ (by simp) rfl : on7F T m sc SA R x WS LV a b 14 (vs 14) W)
          rw [e14] at hK ⊢
          rw [if_pos (by rfl)]
          simp only [put_someT, setIfInBounds_toArray, set_cons_zero, set_cons_succ] at hK
          have HK := Lib.hid hK
          clear hK he hi hBW
          go_simp
          exact HK.out _ _ (by first | rfl | simp [on7F]) (Below.refl _ _)
        · simp only [getElem?_toArray, getElem?_cons_zero, getElem?_cons_succ, Option.some.injEq] at ho
          subst ho
          have e14 : vs 14 = .bool false := (he ⟨14, .guard⟩ (by simp) rfl : on7F T m sc SA R x WS LV a b 14 (vs 14) W)
          rw [e14] at hK ⊢
          rw [if_pos (by rfl)]
          simp only [put_someT, setIfInBounds_toArray, set_cons_zero, set_cons_succ] at hK
          have HK := Lib.hid hK
          clear hK he hi hBW
          go_simp
          exact HK.out _ _ (by first | rfl | simp [on7F]) (Below.refl _ _)
        · simp only [getElem?_toArray, getElem?_cons_zero, getElem?_cons_succ, Option.some.injEq] at ho
          subst ho
          have e14 : vs 14 = .bool false := (he ⟨14, .guard⟩ (by simp) rfl : on7F T m sc SA R x WS LV a b 14 (vs 14) W)
          rw [e14] at hK ⊢
          rw [if_pos (by rfl)]
          simp only [put_someT, setIfInBounds_toArray, set_cons_zero, set_cons_succ] at hK
          have HK := Lib.hid hK
          clear hK he hi hBW
          obtain ⟨_, c0, c1, c2, c3, c4, c5, c6⟩ := RBW.out
          go_simp
          exact HK.out _ _ rfl (Below.refl _ _)
        · simp only [getElem?_toArray, getElem?_cons_zero, getElem?_cons_succ, Option.some.injEq] at ho
          subst ho
          have e15 : vs 15 = .pointer (some ⟨T, 0, none⟩) := (he ⟨15, .data⟩ (by simp) rfl : on7F T m sc SA R x WS LV a b 15 (vs 15) W)
          rw [e15] at hK ⊢
          have e16 : vs 16 = .slice SA m sc := (he ⟨16, .data⟩ (by simp) rfl : on7F T m sc SA R x WS LV a b 16 (vs 16) W)
          rw [e16] at hK ⊢
          have e17 : vs 17 = .int .i64 x := (he ⟨17, .data⟩ (by simp) rfl : on7F T m sc SA R x WS LV a b 17 (vs 17) W)
          rw [e17] at hK ⊢
          have e18 : vs 18 = .agg #[.int .u8 R.kind, .string (bs R.dep.name), .int .u8 R.dep.op, .int .i64 R.dep.evr.epoch, .string (bs R.dep.evr.ver), .string (bs R.dep.evr.rel), .slice R.addr R.args.length R.cap] := (he ⟨18, .data⟩ (by simp) rfl : on7F T m sc SA R x WS LV a b 18 (vs 18) W)
          rw [e18] at hK ⊢
          have e14 : vs 14 = .bool false := (he ⟨14, .guard⟩ (by simp) rfl : on7F T m sc SA R x WS LV a b 14 (vs 14) W)
          rw [e14] at hK ⊢
          rw [if_pos (by rfl)]
          simp only [put_someT, setIfInBounds_toArray, set_cons_zero, set_cons_succ] at hK
          have HK := Lib.hid hK
          clear hK he hi hBW
          have CW := WO9.out W BW.out
          go_simp
          go_at_call 53
          refine CW.mono ?_
          rintro en w9 ⟨rfl, h⟩
          go_simp
          exact HK.out _ _ rfl h
        · simp only [getElem?_toArray, getElem?_cons_zero, getElem?_cons_succ, Option.some.injEq] at ho
          subst ho
          have e14 : vs 14 = .bool false := (he ⟨14, .guard⟩ (by simp) rfl : on7F T m sc SA R x WS LV a b 14 (vs 14) W)
          rw [e14] at hK ⊢
          rw [if_pos (by rfl)]
          simp only [put_someT, setIfInBounds_toArray, set_cons_zero, set_cons_succ] at hK
          have HK := Lib.hid hK
          clear hK he hi hBW
          go_simp
          exact HK.out _ _ (by first | rfl | simp [on7F]) (Below.refl _ _)
        · simp only [getElem?_toArray, getElem?_cons_zero, getElem?_cons_succ, Option.some.injEq] at ho
          subst ho
          have e14 : vs 14 = .bool false := (he ⟨14, .guard⟩ (by simp) rfl : on7F T m sc SA R x WS LV a b 14 (vs 14) W)
          rw [e14] at hK ⊢
          rw [if_pos (by rfl)]
          simp only [put_someT, setIfInBounds_toArray, set_cons_zero, set_cons_succ] at hK
          have HK := Lib.hid hK
          clear hK he hi hBW
          go_simp
          exact HK.out _ _ (by first | rfl | simp [on7F]) (Below.refl _ _)
        · simp only [getElem?_toArray, getElem?_cons_zero, getElem?_cons_succ, Option.some.injEq] at ho
          subst ho
          have e14 : vs 14 = .bool false := (he ⟨14, .guard⟩ (by simp) rfl : on7F T m sc SA R x WS LV a b 14 (vs 14) W)
          rw [e14] at hK ⊢
          rw [if_pos (by rfl)]
          simp only [put_someT, setIfInBounds_toArray, set_cons_zero, set_cons_succ] at hK
          have HK := Lib.hid hK
          clear hK he hi hBW
          go_simp
          exact HK.out _ _ (by first | rfl | simp [on7F]) (Below.refl _ _)
        · simp only [getElem?_toArray, getElem?_cons_zero, getElem?_cons_succ, Option.some.injEq] at ho
          subst ho
          have e21 : vs 21 = .slice SA m sc := (he ⟨21, .data⟩ (by simp) rfl : on7F T m sc SA R x WS LV a b 21 (vs 21) W)
          rw [e21] at hK ⊢
          have e22 : vs 22 = .int .i64 x := (he ⟨22, .data⟩ (by simp) rfl : on7F T m sc SA R x WS LV a b 22 (vs 22) W)
          rw [e22] at hK ⊢
          have e14 : vs 14 = .bool false := (he ⟨14, .guard⟩ (by simp) rfl : on7F T m sc SA R x WS LV a b 14 (vs 14) W)
          rw [e14] at hK ⊢
          rw [if_pos (by rfl)]
          simp only [put_someT, setIfInBounds_toArray, set_cons_zero, set_cons_succ] at hK
          have HK := Lib.hid hK
          clear hK he hi hBW
          have CW := LE9.out W BW.out
          go_simp
          go_at_call 60
          refine CW.mono ?_
          rintro en w9 ⟨A9, c9, rfl, hr9, h⟩
          go_simp
          exact HK.out _ _ ⟨A9, c9, rfl, hr9⟩ h
        · simp only [getElem?_toArray, getElem?_cons_zero, getElem?_cons_succ, Option.some.injEq] at ho
          subst ho
          have e14 : vs 14 = .bool false := (he ⟨14, .guard⟩ (by simp) rfl : on7F T m sc SA R x WS LV a b 14 (vs 14) W)
          rw [e14] at hK ⊢
          rw [if_pos (by rfl)]
          simp only [put_someT, setIfInBounds_toArray, set_cons_zero, set_cons_succ] at hK
          have HK := Lib.hid hK
          clear hK he hi hBW
          obtain ⟨_, c0, c1, c2, c3, c4, c5, c6⟩ := RBW.out
          go_simp
          exact HK.out _ _ rfl (Below.refl _ _)
        · simp only [getElem?_toArray, getElem?_cons_zero, getElem?_cons_succ, Option.some.injEq] at ho
          subst ho
          have e20 : vs 20 = .pointer (some ⟨T, 0, none⟩) := (he ⟨20, .data⟩ (by simp) rfl : on7F T m sc SA R x WS LV a b 20 (vs 20) W)
          rw [e20] at hK ⊢
          obtain ⟨A9, c9, e9, r9⟩ := (he ⟨23, .data⟩ (by simp) rfl : on7F T m sc SA R x WS LV a b 23 (vs 23) W)
          rw [e9] at hK ⊢
          have R9 := Lib.hid r9
          have e24 : vs 24 = .agg #[.int .u8 R.kind, .string (bs R.dep.name), .int .u8 R.dep.op, .int .i64 R.dep.evr.epoch, .string (bs R.dep.evr.ver), .string (bs R.dep.evr.rel), .slice R.addr R.args.length R.cap] := (he ⟨24, .data⟩ (by simp) rfl : on7F T m sc SA R x WS LV a b 24 (vs 24) W)
          rw [e24] at hK ⊢
          have e14 : vs 14 = .bool false := (he ⟨14, .guard⟩ (by simp) rfl : on7F T m sc SA R x WS LV a b 14 (vs 14) W)
          rw [e14] at hK ⊢
          rw [if_pos (by rfl)]
          simp only [put_someT, setIfInBounds_toArray, set_cons_zero, set_cons_succ] at hK
          have HK := Lib.hid hK
          clear hK he hi hBW
          have CW := SB9.out W BW.out A9 c9 R9.out
          go_simp
          go_at_call 40
          refine CW.mono ?_
          rintro en w9 ⟨rfl, h⟩
          go_simp
          exact HK.out _ _ rfl h
        · simp only [getElem?_toArray, getElem?_cons_zero, getElem?_cons_succ, Option.some.injEq] at ho
          subst ho
          have e19 : vs 19 = .bool b := (he ⟨19, .data⟩ (by simp) rfl : on7F T m sc SA R x WS LV a b 19 (vs 19) W)
          rw [e19] at hK ⊢
          have e25 : vs 25 = .bool b := (he ⟨25, .data⟩ (by simp) rfl : on7F T m sc SA R x WS LV a b 25 (vs 25) W)
          rw [e25] at hK ⊢
          have e14 : vs 14 = .bool false := (he ⟨14, .guard⟩ (by simp) rfl : on7F T m sc SA R x WS LV a b 14 (vs 14) W)
          rw [e14] at hK ⊢
          rw [if_pos (by rfl)]
          simp only [put_someT, setIfInBounds_toArray, set_cons_zero, set_cons_succ] at hK
          have HK := Lib.hid hK
          clear hK he hi hBW
          go_simp
          exact HK.out _ _ (by simp [on7T, on7F]) (Below.refl _ _)
        · simp only [getElem?_toArray, getElem?_cons_zero, getElem?_cons_succ, Option.some.injEq] at ho
          subst ho
          have e14 : vs 14 = .bool false := (he ⟨14, .data⟩ (by simp) rfl : on7F T m sc SA R x WS LV a b 14 (vs 14) W)
          rw [e14] at hK ⊢
          have e26 : vs 26 = .bool false := (he ⟨26, .data⟩ (by simp) rfl : on7F T m sc SA R x WS LV a b 26 (vs 26) W)
          rw [e26] at hK ⊢
          rw [if_pos (by rfl)]
          simp only [put_someT, setIfInBounds_toArray, set_cons_zero, set_cons_succ] at hK
          have HK := Lib.hid hK
          clear hK he hi hBW
          go_simp
          exact HK.out _ _ (by first | rfl | simp [on7F]) (Below.refl _ _)
      · intro vs W7 hall hBW
        have eo : vs 27 = .bool false := hall 27 (by decide)
        simp only [take_succ_cons, take_zero, List.drop_succ_cons, List.drop_zero, fillV, put_someT, put_noneC, setIfInBounds_toArray, set_cons_zero, set_cons_succ]
        rw [eo]
        generalize vs 0 = y0
        generalize vs 1 = y1
        generalize vs 2 = y2
        generalize vs 3 = y3
        generalize vs 4 = y4
        generalize vs 5 = y5
        generalize vs 6 = y6
        generalize vs 7 = y7
        generalize vs 8 = y8
        generalize vs 9 = y9
        generalize vs 10 = y10
        generalize vs 11 = y11
        generalize vs 12 = y12
        generalize vs 13 = y13
        generalize vs 14 = y14
        generalize vs 15 = y15
        generalize vs 16 = y16
        generalize vs 17 = y17
        generalize vs 18 = y18
        generalize vs 19 = y19
        generalize vs 20 = y20
        generalize vs 21 = y21
        generalize vs 22 = y22
        generalize vs 23 = y23
        generalize vs 24 = y24
        generalize vs 25 = y25
        generalize vs 26 = y26
        have B67 := Lib.hid hBW
        have B7 := Lib.hid (B6.out.trans (hBW.mono B6.out.size))
        have RB7 := Lib.hid (RB6.out.then hBW)
        clear hall hBW eo SA5 SB9 WO9 WH9 LE9 RB6
        by_cases hx0 : x < 0
        · have AL7 := ALN.out W7 B67.out
          rw [HAL1.out (.inl hx0)] at AL7
          obtain ⟨_, c0, c1, c2, c3, c4, c5, c6⟩ := RB7.out
          go_wp2_with fail
          go_at_call 43
          refine AL7.mono ?_
          rintro en wz ⟨rfl, h⟩
          have BZ := Lib.hid (B7.out.trans (h.mono B7.out.size))
          clear h
          go_wp2_with fail
          go_ret
          exact ⟨rfl, BZ.out⟩
        have hx1 : ¬ x < 0 := hx0
        have CN7 := CNT.out W7 B67.out
        go_wp2_with fail
        go_at_call 61
        refine CN7.mono ?_
        rintro en w8 ⟨rfl, h⟩
        have B68 := Lib.hid (B67.out.trans (h.mono B67.out.size))
        have B8 := Lib.hid (B7.out.trans (h.mono B7.out.size))
        have RB8 := Lib.hid (RB7.out.then h)
        clear h CN7 RB7 B7 B67 CNT
        by_cases hxN : (N : Int) ≤ x
        · have AL8 := ALN.out w8 B68.out
          rw [HAL1.out (.inr hxN)] at AL8
          obtain ⟨_, c0, c1, c2, c3, c4, c5, c6⟩ := RB8.out
          go_wp2_with fail
          go_at_call 43
          refine AL8.mono ?_
          rintro en wz ⟨rfl, h⟩
          have BZ := Lib.hid (B8.out.trans (h.mono B8.out.size))
          clear h
          go_wp2_with fail
          go_ret
          exact ⟨rfl, BZ.out⟩
        have AL8 := Lib.hid (fun W (hb : Below w8.heap.size w8 W) => HAL2.out (by omega) (by omega) ▸ ALN.out W (B68.out.trans (hb.mono B68.out.size)))
        have SX8 := Lib.hid (fun W (hb : Below w8.heap.size w8 W) A c (hR : Rd encI 1 W.heap.size A c [x] W) => SAT.out W (B68.out.trans (hb.mono B68.out.size)) A c [x] hR)
        obtain ⟨b2, hb2⟩ : ∃ b2, Tr.satS N (pvL L2) [x] R.tree = b2 := ⟨_, rfl⟩
        rw [hb2] at AL8 SX8
        clear ALN SAT HAL1 HAL2 hb2
        go_wp2_with fail
        refine wp_region_tail (PP := on11 T R x b2) 11 rfl (by kernel_rfl) (by kernel_rfl) (by decide) (by decide) (on11_mono T R x b2) (fun ii => match ii with | 10 => .bool false | _ => undef) (by simp [fillV, put_someT, setIfInBounds_toArray, set_cons_zero, set_cons_succ]) ?_ ?_
        · intro i o vs W hi ho he hBW K hK
          simp only [take_succ_cons, take_zero, fillV, put_someT, setIfInBounds_toArray, set_cons_zero, set_cons_succ] at hK ⊢
          have BW := Lib.hid hBW
          have RBW := Lib.hid (RB8.out.then hBW)
          obtain rfl | rfl | rfl | rfl | rfl | rfl | rfl | rfl | rfl | rfl | rfl := (show i = 0 ∨ i = 1 ∨ i = 2 ∨ i = 3 ∨ i = 4 ∨ i = 5 ∨ i = 6 ∨ i = 7 ∨ i = 8 ∨ i = 9 ∨ i = 10 by exact (by have : i < 11 := hi; omega))
          · simp only [getElem?_toArray, getElem?_cons_zero, getElem?_cons_succ, Option.some.injEq] at ho
            subst ho
            rw [if_pos (by rfl)]
            simp only [put_someT, setIfInBounds_toArray, set_cons_zero, set_cons_succ] at hK
            have HK := Lib.hid hK
            clear hK he hi hBW
            go_simp
            exact HK.out _ _ (by first | rfl | simp [on11]) (Below.refl _ _)
          · simp only [getElem?_toArray, getElem?_cons_zero, getElem?_cons_succ, Option.some.injEq] at ho
            subst ho
            rw [if_pos (by rfl)]
            simp only [put_someT, setIfInBounds_toArray, set_cons_zero, set_cons_succ] at hK
            have HK := Lib.hid hK
            clear hK he hi hBW
            go_simp
            exact HK.out _ _ (by first | rfl | simp [on11]) (Below.refl _ _)
          · simp only [getElem?_toArray, getElem?_cons_zero, getElem?_cons_succ, Option.some.injEq] at ho
            subst ho
            have e1 : vs 1 = .int .i64 x := (he ⟨1, .data⟩ (by simp) rfl : on11 T R x b2 1 (vs 1) W)
            rw [e1] at hK ⊢
            rw [if_pos (by rfl)]
            simp only [put_someT, setIfInBounds_toArray, set_cons_zero, set_cons_succ] at hK
            have HK := Lib.hid hK
            clear hK he hi hBW
            go_simp
            exact HK.out _ _ ⟨some ⟨W.heap.size, 0, none⟩, 1, rfl, rd_int (by simp) ((World.cell?_alloc_at _ _ _ _ rfl).trans rfl)⟩ ((Below.refl _ _).alloc (Nat.le_refl _) _)
          · simp only [getElem?_toArray, getElem?_cons_zero, getElem?_cons_succ, Option.some.injEq] at ho
            subst ho
            rw [if_pos (by rfl)]
            simp only [put_someT, setIfInBounds_toArray, set_cons_zero, set_cons_succ] at hK
            have HK := Lib.hid hK
            clear hK he hi hBW
            obtain ⟨_, c0, c1, c2, c3, c4, c5, c6⟩ := RBW.out
            go_simp
            exact HK.out _ _ rfl (Below.refl _ _)
          · simp only [getElem?_toArray, getElem?_cons_zero, getElem?_cons_succ, Option.some.injEq] at ho
            subst ho
            have e0 : vs 0 = .pointer (some ⟨T, 0, none⟩) := (he ⟨0, .data⟩ (by simp) rfl : on11 T R x b2 0 (vs 0) W)
            rw [e0] at hK ⊢
            obtain ⟨A9, c9, e9, r9⟩ := (he ⟨2, .data⟩ (by simp) rfl : on11 T R x b2 2 (vs 2) W)
            rw [e9] at hK ⊢
            have R9 := Lib.hid r9
            have e3 : vs 3 = .agg #[.int .u8 R.kind, .string (bs R.dep.name), .int .u8 R.dep.op, .int .i64 R.dep.evr.epoch, .string (bs R.dep.evr.ver), .string (bs R.dep.evr.rel), .slice R.addr R.args.length R.cap] := (he ⟨3, .data⟩ (by simp) rfl : on11 T R x b2 3 (vs 3) W)
            rw [e3] at hK ⊢
            rw [if_pos (by rfl)]
            simp only [put_someT, setIfInBounds_toArray, set_cons_zero, set_cons_succ] at hK
            have HK := Lib.hid hK
            clear hK he hi hBW
            have CW := SX8.out W BW.out A9 c9 R9.out
            go_simp
            go_at_call 40
            refine CW.mono ?_
            rintro en w9 ⟨rfl, h⟩
            go_simp
            exact HK.out _ _ rfl h
          · simp only [getElem?_toArray, getElem?_cons_zero, getElem?_cons_succ, Option.some.injEq] at ho
            subst ho
            rw [if_pos (by rfl)]
            simp only [put_someT, setIfInBounds_toArray, set_cons_zero, set_cons_succ] at hK
            have HK := Lib.hid hK
            clear hK he hi hBW
            go_simp
            exact HK.out _ _ (by first | rfl | simp [on11]) (Below.refl _ _)
          · simp only [getElem?_toArray, getElem?_cons_zero, getElem?_cons_succ, Option.some.injEq] at ho
            subst ho
            rw [if_pos (by rfl)]
            simp only [put_someT, setIfInBounds_toArray, set_cons_zero, set_cons_succ] at hK
            have HK := Lib.hid hK
            clear hK he hi hBW
            go_simp
            exact HK.out _ _ (by first | rfl | simp [on11]) (Below.refl _ _)
          · simp only [getElem?_toArray, getElem?_cons_zero, getElem?_cons_succ, Option.some.injEq] at ho
            subst ho
            rw [if_pos (by rfl)]
            simp only [put_someT, setIfInBounds_toArray, set_cons_zero, set_cons_succ] at hK
            have HK := Lib.hid hK
            clear hK he hi hBW
            obtain ⟨_, c0, c1, c2, c3, c4, c5, c6⟩ := RBW.out
            go_simp
            exact HK.out _ _ rfl (Below.refl _ _)
          · simp only [getElem?_toArray, getElem?_cons_zero, getElem?_cons_succ, Option.some.injEq] at ho
            subst ho
            have e5 : vs 5 = .pointer (some ⟨T, 0, none⟩) := (he ⟨5, .data⟩ (by simp) rfl : on11 T R x b2 5 (vs 5) W)
            rw [e5] at hK ⊢
            have e6 : vs 6 = .int .i64 x := (he ⟨6, .data⟩ (by simp) rfl : on11 T R x b2 6 (vs 6) W)
            rw [e6] at hK ⊢
            have e7 : vs 7 = .agg #[.int .u8 R.kind, .string (bs R.dep.name), .int .u8 R.dep.op, .int .i64 R.dep.evr.epoch, .string (bs R.dep.evr.ver), .string (bs R.dep.evr.rel), .slice R.addr R.args.length R.cap] := (he ⟨7, .data⟩ (by simp) rfl : on11 T R x b2 7 (vs 7) W)
            rw [e7] at hK ⊢
            rw [if_pos (by rfl)]
            simp only [put_someT, setIfInBounds_toArray, set_cons_zero, set_cons_succ] at hK
            have HK := Lib.hid hK
            clear hK he hi hBW
            have CW := AL8.out W BW.out
            go_simp
            go_at_call 43
            refine CW.mono ?_
            rintro en w9 ⟨rfl, h⟩
            go_simp
            exact HK.out _ _ rfl h
          · simp only [getElem?_toArray, getElem?_cons_zero, getElem?_cons_succ, Option.some.injEq] at ho
            subst ho
            have e4 : vs 4 = .bool b2 := (he ⟨4, .data⟩ (by simp) rfl : on11 T R x b2 4 (vs 4) W)
            rw [e4] at hK ⊢
            have e8 : vs 8 = .bool b2 := (he ⟨8, .data⟩ (by simp) rfl : on11 T R x b2 8 (vs 8) W)
            rw [e8] at hK ⊢
            rw [if_pos (by rfl)]
            simp only [put_someT, setIfInBounds_toArray, set_cons_zero, set_cons_succ] at hK
            have HK := Lib.hid hK
            clear hK he hi hBW
            go_simp
            exact HK.out _ _ (by simp [on11]) (Below.refl _ _)
          · simp only [getElem?_toArray, getElem?_cons_zero, getElem?_cons_succ, Option.some.injEq] at ho
            subst ho
            have e9 : vs 9 = .bool true := (he ⟨9, .data⟩ (by simp) rfl : on11 T R x b2 9 (vs 9) W)
            rw [e9] at hK ⊢
            rw [if_pos (by rfl)]
            simp only [put_someT, setIfInBounds_toArray, set_cons_zero, set_cons_succ] at hK
            have HK := Lib.hid hK
            clear hK he hi hBW
            go_simp
            exact HK.out _ _ (by first | rfl | simp [on11]) (Below.refl _ _)
        · intro vs W9 hall hBW
          have eo : vs 10 = .bool true := hall 10 (by decide)
          simp only [take_succ_cons, take_zero, List.drop_succ_cons, List.drop_zero, fillV, put_someT, put_noneC, setIfInBounds_toArray, set_cons_zero, set_cons_succ]
          rw [eo]
          generalize vs 0 = q0
          generalize vs 1 = q1
          generalize vs 2 = q2
          generalize vs 3 = q3
          generalize vs 4 = q4
          generalize vs 5 = q5
          generalize vs 6 = q6
          generalize vs 7 = q7
          generalize vs 8 = q8
          generalize vs 9 = q9
          have B9 := Lib.hid (B8.out.trans (hBW.mono B8.out.size))
          clear hall hBW eo
          go_wp2_with fail
          go_ret
          exact ⟨rfl, B9.out⟩
    · have HDN := Lib.hid (HDN.out rfl)
      have HDW := Lib.hid (show decide ((0 : Int) < (WS.length : Int)) = a from by rw [← HDN.out]; simp)
      refine wp_region_tail (PP := on7T T m sc SA R x WS LV a b) 28 rfl (by kernel_rfl) (by kernel_rfl) (by decide) (by decide) (on7T_mono T m sc SA R x WS LV a b) (fun _ => undef) (by simp [fillV, put_someT, setIfInBounds_toArray, set_cons_zero, set_cons_succ]) ?_ ?_
      · intro i o vs W hi ho he hBW K hK
        simp only [take_succ_cons, take_zero, fillV, put_someT, setIfInBounds_toArray, set_cons_zero, set_cons_succ] at hK ⊢
        have BW := Lib.hid hBW
        have RBW := Lib.hid (RB6.out.then hBW)
        obtain rfl | rfl | rfl | rfl | rfl | rfl | rfl | rfl | rfl | rfl | rfl | rfl | rfl | rfl | rfl | rfl | rfl | rfl | rfl | rfl | rfl | rfl | rfl | rfl | rfl | rfl | rfl | rfl := (show i = 0 ∨ i = 1 ∨ i = 2 ∨ i = 3 ∨ i = 4 ∨ i = 5 ∨ i = 6 ∨ i = 7 ∨ i = 8 ∨ i = 9 ∨ i = 10 ∨ i = 11 ∨ i = 12 ∨ i = 13 ∨ i = 14 ∨ i = 15 ∨ i = 16 ∨ i = 17 ∨ i = 18 ∨ i = 19 ∨ i = 20 ∨ i = 21 ∨ i = 22 ∨ i = 23 ∨ i = 24 ∨ i = 25 ∨ i = 26 ∨ i = 27 by exact (by have : i < 28 := hi; omega))
        · simp only [getElem?_toArray, getElem?_cons_zero, getElem?_cons_succ, Option.some.injEq] at ho
          subst ho
          rw [if_pos (by rfl)]
          simp only [put_someT, setIfInBounds_toArray, set_cons_zero, set_cons_succ] at hK
          have HK := Lib.hid hK
          clear hK he hi hBW
          go_simp
          exact HK.out _ _ (by first | rfl | simp [on7T]) (Below.refl _ _)
        · simp only [getElem?_toArray, getElem?_cons_zero, getElem?_cons_succ, Option.some.injEq] at ho
          subst ho
          have e0 : vs 0 = .bool true := (he ⟨0, .data⟩ (by simp) rfl : on7T T m sc SA R x WS LV a b 0 (vs 0) W)
          rw [e0] at hK ⊢
          rw [if_pos (by rfl)]
          simp only [put_someT, setIfInBounds_toArray, set_cons_zero, set_cons_succ] at hK
          have HK := Lib.hid hK
          clear hK he hi hBW
          go_simp
          exact HK.out _ _ (by first | rfl | simp [on7T]) (Below.refl _ _)
        · simp only [getElem?_toArray, getElem?_cons_zero, getElem?_cons_succ, Option.some.injEq] at ho
          subst ho
          have e1 : vs 1 = .bool true := (he ⟨1, .guard⟩ (by simp) rfl : on7T T m sc SA R x WS LV a b 1 (vs 1) W)
          rw [e1] at hK ⊢
          rw [if_pos (by rfl)]
          simp only [put_someT, setIfInBounds_toArray, set_cons_zero, set_cons_succ] at hK
          have HK := Lib.hid hK
          clear hK he hi hBW
          go_simp
          exact HK.out _ _ (by first | rfl | simp [on7T]) (Below.refl _ _)
        · simp only [getElem?_toArray, getElem?_cons_zero, getElem?_cons_succ, Option.some.injEq] at ho
          subst ho
          have e1 : vs 1 = .bool true := (he ⟨1, .guard⟩ (by simp) rfl : on7T T m sc SA R x WS LV a b 1 (vs 1) W)
          rw [e1] at hK ⊢
          rw [if_pos (by rfl)]
          simp only [put_someT, setIfInBounds_toArray, set_cons_zero, set_cons_succ] at hK
          have HK := Lib.hid hK
          clear hK he hi hBW
          go_simp
          exact HK.out _ _ (by first | rfl | simp [on7T]) (Below.refl _ _)
        · simp only [getElem?_toArray, getElem?_cons_zero, getElem?_cons_succ, Option.some.injEq] at ho
          subst ho
          have e1 : vs 1 = .bool true := (he ⟨1, .guard⟩ (by simp) rfl : on7T T m sc SA R x WS LV a b 1 (vs 1) W)
          rw [e1] at hK ⊢
          rw [if_pos (by rfl)]
          simp only [put_someT, setIfInBounds_toArray, set_cons_zero, set_cons_succ] at hK
          have HK := Lib.hid hK
          clear hK he hi hBW
          obtain ⟨_, c0, c1, c2, c3, c4, c5, c6⟩ := RBW.out
          go_simp
          exact HK.out _ _ rfl (Below.refl _ _)
        · simp only [getElem?_toArray, getElem?_cons_zero, getElem?_cons_succ, Option.some.injEq] at ho
          subst ho
          have e2 : vs 2 = .pointer (some ⟨T, 0, none⟩) := (he ⟨2, .data⟩ (by simp) rfl : on7T T m sc SA R x WS LV a b 2 (vs 2) W)
          rw [e2] at hK ⊢
          have e3 : vs 3 = .slice SA m sc := (he ⟨3, .data⟩ (by simp) rfl : on7T T m sc SA R x WS LV a b 3 (vs 3) W)
          rw [e3] at hK ⊢
          have e4 : vs 4 = .agg #[.int .u8 R.kind, .string (bs R.dep.name), .int .u8 R.dep.op, .int .i64 R.dep.evr.epoch, .string (bs R.dep.evr.ver), .string (bs R.dep.evr.rel), .slice R.addr R.args.length R.cap] := (he ⟨4, .data⟩ (by simp) rfl : on7T T m sc SA R x WS LV a b 4 (vs 4) W)
          rw [e4] at hK ⊢
          have e1 : vs 1 = .bool true := (he ⟨1, .guard⟩ (by simp) rfl : on7T T m sc SA R x WS LV a b 1 (vs 1) W)
          rw [e1] at hK ⊢
          rw [if_pos (by rfl)]
          simp only [put_someT, setIfInBounds_toArray, set_cons_zero, set_cons_succ] at hK
          have HK := Lib.hid hK
          clear hK he hi hBW
          have CW := SA5.out W BW.out
          go_simp
          go_at_call 40
          refine CW.mono ?_
          rintro en w9 ⟨rfl, h⟩
          go_simp
          exact HK.out _ _ rfl h
        · simp only [getElem?_toArray, getElem?_cons_zero, getElem?_cons_succ, Option.some.injEq] at ho
          subst ho
          have e1 : vs 1 = .bool true := (he ⟨1, .guard⟩ (by simp) rfl : on7T T m sc SA R x WS LV a b 1 (vs 1) W)
          rw [e1] at hK ⊢
          rw [if_pos (by rfl)]
          simp only [put_someT, setIfInBounds_toArray, set_cons_zero, set_cons_succ] at hK
          have HK := Lib.hid hK
          clear hK he hi hBW
          go_simp
          exact HK.out _ _ (by first | rfl | simp [on7T]) (Below.refl _ _)
        · simp only [getElem?_toArray, getElem?_cons_zero, getElem?_cons_succ, Option.some.injEq] at ho
          subst ho
          have e1 : vs 1 = .bool true := (he ⟨1, .guard⟩ (by simp) rfl : on7T T m sc SA R x WS LV a b 1 (vs 1) W)
          rw [e1] at hK ⊢
          rw [if_pos (by rfl)]
          simp only [put_someT, setIfInBounds_toArray, set_cons_zero, set_cons_succ] at hK
          have HK := Lib.hid hK
          clear hK he hi hBW
          go_simp
          exact HK.out _ _ (by first | rfl | simp [on7T]) (Below.refl _ _)
        · simp only [getElem?_toArray, getElem?_cons_zero, getElem?_cons_succ, Option.some.injEq] at ho
          subst ho
          have e1 : vs 1 = .bool true := (he ⟨1, .guard⟩ (by simp) rfl : on7T T m sc SA R x WS LV a b 1 (vs 1) W)
          rw [e1] at hK ⊢
          rw [if_pos (by rfl)]
          simp only [put_someT, setIfInBounds_toArray, set_cons_zero, set_cons_succ] at hK
          have HK := Lib.hid hK
          clear hK he hi hBW
          obtain ⟨_, c0, c1, c2, c3, c4, c5, c6⟩ := RBW.out
          go_simp
          exact HK.out _ _ rfl (Below.refl _ _)
        · simp only [getElem?_toArray, getElem?_cons_zero, getElem?_cons_succ, Option.some.injEq] at ho
          subst ho
          have e6 : vs 6 = .pointer (some ⟨T, 0, none⟩) := (he ⟨6, .data⟩ (by simp) rfl : on7T T m sc SA R x WS LV a b 6 (vs 6) W)
          rw [e6] at hK ⊢
          have e7 : vs 7 = .slice SA m sc := (he ⟨7, .data⟩ (by simp) rfl : on7T T m sc SA R x WS LV a b 7 (vs 7) W)
          rw [e7] at hK ⊢
          have e8 : vs 8 = .agg #[.int .u8 R.kind, .string (bs R.dep.name), .int .u8 R.dep.op, .int .i64 R.dep.evr.epoch, .string (bs R.dep.evr.ver), .string (bs R.dep.evr.rel), .slice R.addr R.args.length R.cap] := (he ⟨8, .data⟩ (by simp) rfl : on7T T m sc SA R x WS LV a b 8 (vs 8) W)
          rw [e8] at hK ⊢
          have e1 : vs 1 = .bool true := (he ⟨1, .guard⟩ (by simp) rfl : on7T T m sc SA R x WS LV a b 1 (vs 1) W)
          rw [e1] at hK ⊢
          rw [if_pos (by rfl)]
          simp only [put_someT, setIfInBounds_toArray, set_cons_zero, set_cons_succ] at hK
          have HK := Lib.hid hK
          clear hK he hi hBW
          have CW := WH9.out W BW.out
          go_simp
          go_at_call 41
          refine CW.mono ?_
          rintro en w9 ⟨A9, c9, rfl, hr9, h⟩
          go_simp
          exact HK.out _ _ ⟨A9, c9, rfl, hr9⟩ h
        · simp only [getElem?_toArray, getElem?_cons_zero, getElem?_cons_succ, Option.some.injEq] at ho
          subst ho
          obtain ⟨A9, c9, e9, r9⟩ := (he ⟨9, .data⟩ (by simp) rfl : on7T T m sc SA R x WS LV a b 9 (vs 9) W)
          rw [e9] at hK ⊢
          have R9 := Lib.hid r9
          have e1 : vs 1 = .bool true := (he ⟨1, .guard⟩ (by simp) rfl : on7T T m sc SA R x WS LV a b 1 (vs 1) W)
          rw [e1] at hK ⊢
          rw [if_pos (by rfl)]
          simp only [put_someT, setIfInBounds_toArray, set_cons_zero, set_cons_succ] at hK
          have HK := Lib.hid hK
          clear hK he hi hBW
          go_simp
          exact HK.out _ _ rfl (Below.refl _ _)
        · simp only [getElem?_toArray, getElem?_cons_zero, getElem?_cons_succ, Option.some.injEq] at ho
          subst ho
          have e10 : vs 10 = .int .i64 (WS.length : Int) := (he ⟨10, .data⟩ (by simp) rfl : on7T T m sc SA R x WS LV a b 10 (vs 10) W)
          rw [e10] at hK ⊢
          have e1 : vs 1 = .bool true := (he ⟨1, .guard⟩ (by simp) rfl : on7T T m sc SA R x WS LV a b 1 (vs 1) W)
          rw [e1] at hK ⊢
          rw [if_pos (by rfl)]
          simp only [put_someT, setIfInBounds_toArray, set_cons_zero, set_cons_succ] at hK
          have HK := Lib.hid hK
          clear hK he hi hBW
          go_simp
          exact HK.out _ _ (by first | exact congrArg Value.bool HDW.out | exact congrArg Value.bool HDN.out | (show Value.bool _ = Value.bool a; rw [← HDN.out]; simp)) (Below.refl _ _)
        · simp only [getElem?_toArray, getElem?_cons_zero, getElem?_cons_succ, Option.some.injEq] at ho
          subst ho
          have e5 : vs 5 = .bool a := (he ⟨5, .data⟩ (by simp) rfl : on7T T m sc SA R x WS LV a b 5 (vs 5) W)
          rw [e5] at hK ⊢
          have e11 : vs 11 = .bool a := (he ⟨11, .data⟩ (by simp) rfl : on7T T m sc SA R x WS LV a b 11 (vs 11) W)
          rw [e11] at hK ⊢
          have e1 : vs 1 = .bool true := (he ⟨1, .guard⟩ (by simp) rfl : on7T T m sc SA R x WS LV a b 1 (vs 1) W)
          rw [e1] at hK ⊢
          rw [if_pos (by rfl)]
          simp only [put_someT, setIfInBounds_toArray, set_cons_zero, set_cons_succ] at hK
          have HK := Lib.hid hK
          clear hK he hi hBW
          go_simp
          exact HK.out _ _ (by simp [on7T]) (Below.refl _ _)
        · simp only [getElem?_toArray, getElem?_cons_zero, getElem?_cons_succ, Option.some.injEq] at ho
          subst ho
          have e1 : vs 1 = .bool true := (he ⟨1, .data⟩ (by simp) rfl : on7T T m sc SA R x WS LV a b 1 (vs 1) W)
          rw [e1] at hK ⊢
          have e12 : vs 12 = .bool false := (he ⟨12, .data⟩ (by simp) rfl : on7T T m sc SA R x WS LV a b 12 (vs 12) W)
          rw [e12] at hK ⊢
          rw [if_pos (by rfl)]
          simp only [put_someT, setIfInBounds_toArray, set_cons_zero, set_cons_succ] at hK
          have HK := Lib.hid hK
          clear hK he hi hBW
          go_simp
          exact HK.out _ _ (by first | rfl | simp [on7T]) (Below.refl _ _)
        · simp only [getElem?_toArray, getElem?_cons_zero, getElem?_cons_succ, Option.some.injEq] at ho
          subst ho
          have e13 : vs 13 = .bool false := (he ⟨13, .data⟩ (by simp) rfl : on7T T m sc SA R x WS LV a b 13 (vs 13) W)
          rw [e13] at hK ⊢
          rw [if_pos (by rfl)]
          simp only [put_someT, setIfInBounds_toArray, set_cons_zero, set_cons_succ] at hK
          have HK := Lib.hid hK
          clear hK he hi hBW
          go_simp
          exact HK.out _ _ (by first | rfl | simp [on7T]) (Below.refl _ _)
        · simp only [getElem?_toArray, getElem?_cons_zero, getElem?_cons_succ, Option.some.injEq] at ho
          subst ho
          have e14 : vs 14 = .bool false := (he ⟨14, .guard⟩ (by simp) rfl : on7T T m sc SA R x WS LV a b 14 (vs 14) W)
          rw [e14] at hK ⊢
          rw [if_pos (by rfl)]
          simp only [put_someT, setIfInBounds_toArray, set_cons_zero, set_cons_succ] at hK
          have HK := Lib.hid hK
          clear hK he hi hBW
          go_simp
          exact HK.out _ _ (by first | rfl | simp [on7T]) (Below.refl _ _)
        · simp only [getElem?_toArray, getElem?_cons_zero, getElem?_cons_succ, Option.some.injEq] at ho
          subst ho
          have e14 : vs 14 = .bool false := (he ⟨14, .guard⟩ (by simp) rfl : on7T T m sc SA R x WS LV a b 14 (vs 14) W)
          rw [e14] at hK ⊢
          rw [if_pos (by rfl)]
          simp only [put_someT, setIfInBounds_toArray, set_cons_zero, set_cons_succ] at hK
          have HK := Lib.hid hK
          clear hK he hi hBW
          go_simp
          exact HK.out _ _ (by first | rfl | simp [on7T]) (Below.refl _ _)
        · simp only [getElem?_toArray, getElem?_cons_zero, getElem?_cons_succ, Option.some.injEq] at ho
          subst ho
          have e14 : vs 14 = .bool false := (he ⟨14, .guard⟩ (by simp) rfl : on7T T m sc SA R x WS LV a b 14 (vs 14) W)
          rw [e14] at hK ⊢
          rw [if_pos (by rfl)]
          simp only [put_someT, setIfInBounds_toArray, set_cons_zero, set_cons_succ] at hK
          have HK := Lib.hid hK
          clear hK he hi hBW
          go_simp
          exact HK.out _ _ (by first | rfl | simp [on7T]) (Below.refl _ _)
        · simp only [getElem?_toArray, getElem?_cons_zero, getElem?_cons_succ, Option.some.injEq] at ho
          subst ho
          have e14 : vs 14 = .bool false := (he ⟨14, .guard⟩ (by simp) rfl : on7T T m sc SA R x WS LV a b 14 (vs 14) W)
          rw [e14] at hK ⊢
          rw [if_pos (by rfl)]
          simp only [put_someT, setIfInBounds_toArray, set_cons_zero, set_cons_succ] at hK
          have HK := Lib.hid hK
          clear hK he hi hBW
          obtain ⟨_, c0, c1, c2, c3, c4, c5, c6⟩ := RBW.out
          go_simp
          exact HK.out _ _ rfl (Below.refl _ _)
        · simp only [getElem?_toArray, getElem?_cons_zero, getElem?_cons_succ, Option.some.injEq] at ho
          subst ho
          have e15 : vs 15 = .pointer (some ⟨T, 0, none⟩) := (he ⟨15, .data⟩ (by simp) rfl : on7T T m sc SA R x WS LV a b 15 (vs 15) W)
          rw [e15] at hK ⊢
          have e16 : vs 16 = .slice SA m sc := (he ⟨16, .data⟩ (by simp) rfl : on7T T m sc SA R x WS LV a b 16 (vs 16) W)
          rw [e16] at hK ⊢
          have e17 : vs 17 = .int .i64 x := (he ⟨17, .data⟩ (by simp) rfl : on7T T m sc SA R x WS LV a b 17 (vs 17) W)
          rw [e17] at hK ⊢
          have e18 : vs 18 = .agg #[.int .u8 R.kind, .string (bs R.dep.name), .int .u8 R.dep.op, .int .i64 R.dep.evr.epoch, .string (bs R.dep.evr.ver), .string (bs R.dep.evr.rel), .slice R.addr R.args.length R.cap] := (he ⟨18, .data⟩ (by simp) rfl : on7T T m sc SA R x WS LV a b 18 (vs 18) W)
          rw [e18] at hK ⊢
          have e14 : vs 14 = .bool false := (he ⟨14, .guard⟩ (by simp) rfl : on7T T m sc SA R x WS LV a b 14 (vs 14) W)
          rw [e14] at hK ⊢
          rw [if_pos (by rfl)]
          simp only [put_someT, setIfInBounds_toArray, set_cons_zero, set_cons_succ] at hK
          have HK := Lib.hid hK
          clear hK he hi hBW
          have CW := WO9.out W BW.out
          go_simp
          go_at_call 53
          refine CW.mono ?_
          rintro en w9 ⟨rfl, h⟩
          go_simp
          exact HK.out _ _ rfl h
        · simp only [getElem?_toArray, getElem?_cons_zero, getElem?_cons_succ, Option.some.injEq] at ho
          subst ho
          have e14 : vs 14 = .bool false := (he ⟨14, .guard⟩ (by simp) rfl : on7T T m sc SA R x WS LV a b 14 (vs 14) W)
          rw [e14] at hK ⊢
          rw [if_pos (by rfl)]
          simp only [put_someT, setIfInBounds_toArray, set_cons_zero, set_cons_succ] at hK
          have HK := Lib.hid hK
          clear hK he hi hBW
          go_simp
          exact HK.out _ _ (by first | rfl | simp [on7T]) (Below.refl _ _)
        · simp only [getElem?_toArray, getElem?_cons_zero, getElem?_cons_succ, Option.some.injEq] at ho
          subst ho
          have e14 : vs 14 = .bool false := (he ⟨14, .guard⟩ (by simp) rfl : on7T T m sc SA R x WS LV a b 14 (vs 14) W)
          rw [e14] at hK ⊢
          rw [if_pos (by rfl)]
          simp only [put_someT, setIfInBounds_toArray, set_cons_zero, set_cons_succ] at hK
          have HK := Lib.hid hK
          clear hK he hi hBW
          go_simp
          exact HK.out _ _ (by first | rfl | simp [on7T]) (Below.refl _ _)
        · simp only [getElem?_toArray, getElem?_cons_zero, getElem?_cons_succ, Option.some.injEq] at ho
          subst ho
          have e14 : vs 14 = .bool false := (he ⟨14, .guard⟩ (by simp) rfl : on7T T m sc SA R x WS LV a b 14 (vs 14) W)
          rw [e14] at hK ⊢
          rw [if_pos (by rfl)]
          simp only [put_someT, setIfInBounds_toArray, set_cons_zero, set_cons_succ] at hK
          have HK := Lib.hid hK
          clear hK he hi hBW
          go_simp
          exact HK.out _ _ (by first | rfl | simp [on7T]) (Below.refl _ _)
        · simp only [getElem?_toArray, getElem?_cons_zero, getElem?_cons_succ, Option.some.injEq] at ho
          subst ho
          have e21 : vs 21 = .slice SA m sc := (he ⟨21, .data⟩ (by simp) rfl : on7T T m sc SA R x WS LV a b 21 (vs 21) W)
          rw [e21] at hK ⊢
          have e22 : vs 22 = .int .i64 x := (he ⟨22, .data⟩ (by simp) rfl : on7T T m sc SA R x WS LV a b 22 (vs 22) W)
          rw [e22] at hK ⊢
          have e14 : vs 14 = .bool false := (he ⟨14, .guard⟩ (by simp) rfl : on7T T m sc SA R x WS LV a b 14 (vs 14) W)
          rw [e14] at hK ⊢
          rw [if_pos (by rfl)]
          simp only [put_someT, setIfInBounds_toArray, set_cons_zero, set_cons_succ] at hK
          have HK := Lib.hid hK
          clear hK he hi hBW
          have CW := LE9.out W BW.out
          go_simp
          go_at_call 60
          refine CW.mono ?_
          rintro en w9 ⟨A9, c9, rfl, hr9, h⟩
          go_simp
          exact HK.out _ _ ⟨A9, c9, rfl, hr9⟩ h
        · simp only [getElem?_toArray, getElem?_cons_zero, getElem?_cons_succ, Option.some.injEq] at ho
          subst ho
          have e14 : vs 14 = .bool false := (he ⟨14, .guard⟩ (by simp) rfl : on7T T m sc SA R x WS LV a b 14 (vs 14) W)
          rw [e14] at hK ⊢
          rw [if_pos (by rfl)]
          simp only [put_someT, setIfInBounds_toArray, set_cons_zero, set_cons_succ] at hK
          have HK := Lib.hid hK
          clear hK he hi hBW
          obtain ⟨_, c0, c1, c2, c3, c4, c5, c6⟩ := RBW.out
          go_simp
          exact HK.out _ _ rfl (Below.refl _ _)
        · simp only [getElem?_toArray, getElem?_cons_zero, getElem?_cons_succ, Option.some.injEq] at ho
          subst ho
          have e20 : vs 20 = .pointer (some ⟨T, 0, none⟩) := (he ⟨20, .data⟩ (by simp) rfl : on7T T m sc SA R x WS LV a b 20 (vs 20) W)
          rw [e20] at hK ⊢
          obtain ⟨A9, c9, e9, r9⟩ := (he ⟨23, .data⟩ (by simp) rfl : on7T T m sc SA R x WS LV a b 23 (vs 23) W)
          rw [e9] at hK ⊢
          have R9 := Lib.hid r9
          have e24 : vs 24 = .agg #[.int .u8 R.kind, .string (bs R.dep.name), .int .u8 R.dep.op, .int .i64 R.dep.evr.epoch, .string (bs R.dep.evr.ver), .string (bs R.dep.evr.rel), .slice R.addr R.args.length R.cap] := (he ⟨24, .data⟩ (by simp) rfl : on7T T m sc SA R x WS LV a b 24 (vs 24) W)
          rw [e24] at hK ⊢
          have e14 : vs 14 = .bool false := (he ⟨14, .guard⟩ (by simp) rfl : on7T T m sc SA R x WS LV a b 14 (vs 14) W)
          rw [e14] at hK ⊢
          rw [if_pos (by rfl)]
          simp only [put_someT, setIfInBounds_toArray, set_cons_zero, set_cons_succ] at hK
          have HK := Lib.hid hK
          clear hK he hi hBW
          have CW := SB9.out W BW.out A9 c9 R9.out
          go_simp
          go_at_call 40
          refine CW.mono ?_
          rintro en w9 ⟨rfl, h⟩
          go_simp
          exact HK.out _ _ rfl h
        · simp only [getElem?_toArray, getElem?_cons_zero, getElem?_cons_succ, Option.some.injEq] at ho
          subst ho
          have e19 : vs 19 = .bool b := (he ⟨19, .data⟩ (by simp) rfl : on7T T m sc SA R x WS LV a b 19 (vs 19) W)
          rw [e19] at hK ⊢
          have e25 : vs 25 = .bool b := (he ⟨25, .data⟩ (by simp) rfl : on7T T m sc SA R x WS LV a b 25 (vs 25) W)
          rw [e25] at hK ⊢
          have e14 : vs 14 = .bool false := (he ⟨14, .guard⟩ (by simp) rfl : on7T T m sc SA R x WS LV a b 14 (vs 14) W)
          rw [e14] at hK ⊢
          rw [if_pos (by rfl)]
          simp only [put_someT, setIfInBounds_toArray, set_cons_zero, set_cons_succ] at hK
          have HK := Lib.hid hK
          clear hK he hi hBW
          go_simp
          exact HK.out _ _ (by simp [on7T, on7F]) (Below.refl _ _)
        · simp only [getElem?_toArray, getElem?_cons_zero, getElem?_cons_succ, Option.some.injEq] at ho
          subst ho
          have e14 : vs 14 = .bool false := (he ⟨14, .data⟩ (by simp) rfl : on7T T m sc SA R x WS LV a b 14 (vs 14) W)
          rw [e14] at hK ⊢
          have e26 : vs 26 = .bool false := (he ⟨26, .data⟩ (by simp) rfl : on7T T m sc SA R x WS LV a b 26 (vs 26) W)
          rw [e26] at hK ⊢
          rw [if_pos (by rfl)]
          simp only [put_someT, setIfInBounds_toArray, set_cons_zero, set_cons_succ] at hK
          have HK := Lib.hid hK
          clear hK he hi hBW
          go_simp
          exact HK.out _ _ (by first | rfl | simp [on7T]) (Below.refl _ _)
      · intro vs W7 hall hBW
        have eo : vs 27 = .bool false := hall 27 (by decide)
        simp only [take_succ_cons, take_zero, List.drop_succ_cons, List.drop_zero, fillV, put_someT, put_noneC, setIfInBounds_toArray, set_cons_zero, set_cons_succ]
        rw [eo]
        generalize vs 0 = y0
        generalize vs 1 = y1
        generalize vs 2 = y2
        generalize vs 3 = y3
        generalize vs 4 = y4
        generalize vs 5 = y5
        generalize vs 6 = y6
        generalize vs 7 = y7
        generalize vs 8 = y8
        generalize vs 9 = y9
        generalize vs 10 = y10
        generalize vs 11 = y11
        generalize vs 12 = y12
        generalize vs 13 = y13
        generalize vs 14 = y14
        generalize vs 15 = y15
        generalize vs 16 = y16
        generalize vs 17 = y17
        generalize vs 18 = y18
        generalize vs 19 = y19
        generalize vs 20 = y20
        generalize vs 21 = y21
        generalize vs 22 = y22
        generalize vs 23 = y23
        generalize vs 24 = y24
        generalize vs 25 = y25
        generalize vs 26 = y26
        have B67 := Lib.hid hBW
        have B7 := Lib.hid (B6.out.trans (hBW.mono B6.out.size))
        have RB7 := Lib.hid (RB6.out.then hBW)
        clear hall hBW eo SA5 SB9 WO9 WH9 LE9 RB6
        by_cases hx0 : x < 0
        · have AL7 := ALN.out W7 B67.out
          rw [HAL1.out (.inl hx0)] at AL7
          obtain ⟨_, c0, c1, c2, c3, c4, c5, c6⟩ := RB7.out
          go_wp2_with fail
          go_at_call 43
          refine AL7.mono ?_
          rintro en wz ⟨rfl, h⟩
          have BZ := Lib.hid (B7.out.trans (h.mono B7.out.size))
          clear h
          go_wp2_with fail
          go_ret
          exact ⟨rfl, BZ.out⟩
        have hx1 : ¬ x < 0 := hx0
        have CN7 := CNT.out W7 B67.out
        go_wp2_with fail
        go_at_call 61
        refine CN7.mono ?_
        rintro en w8 ⟨rfl, h⟩
        have B68 := Lib.hid (B67.out.trans (h.mono B67.out.size))
        have B8 := Lib.hid (B7.out.trans (h.mono B7.out.size))
        have RB8 := Lib.hid (RB7.out.then h)
        clear h CN7 RB7 B7 B67 CNT
        by_cases hxN : (N : Int) ≤ x
        · have AL8 := ALN.out w8 B68.out
          rw [HAL1.out (.inr hxN)] at AL8
          obtain ⟨_, c0, c1, c2, c3, c4, c5, c6⟩ := RB8.out
          go_wp2_with fail
          go_at_call 43
          refine AL8.mono ?_
          rintro en wz ⟨rfl, h⟩
          have BZ := Lib.hid (B8.out.trans (h.mono B8.out.size))
          clear h
          go_wp2_with fail
          go_ret
          exact ⟨rfl, BZ.out⟩
        have AL8 := Lib.hid (fun W (hb : Below w8.heap.size w8 W) => HAL2.out (by omega) (by omega) ▸ ALN.out W (B68.out.trans (hb.mono B68.out.size)))
        have SX8 := Lib.hid (fun W (hb : Below w8.heap.size w8 W) A c (hR : Rd encI 1 W.heap.size A c [x] W) => SAT.out W (B68.out.trans (hb.mono B68.out.size)) A c [x] hR)
        obtain ⟨b2, hb2⟩ : ∃ b2, Tr.satS N (pvL L2) [x] R.tree = b2 := ⟨_, rfl⟩
        rw [hb2] at AL8 SX8
        clear ALN SAT HAL1 HAL2 hb2
        go_wp2_with fail
        refine wp_region_tail (PP := on11 T R x b2) 11 rfl (by kernel_rfl) (by kernel_rfl) (by decide) (by decide) (on11_mono T R x b2) (fun ii => match ii with | 10 => .bool false | _ => undef) (by simp [fillV, put_someT, setIfInBounds_toArray, set_cons_zero, set_cons_succ]) ?_ ?_
        · intro i o vs W hi ho he hBW K hK
          simp only [take_succ_cons, take_zero, fillV, put_someT, setIfInBounds_toArray, set_cons_zero, set_cons_succ] at hK ⊢
          have BW := Lib.hid hBW
          have RBW := Lib.hid (RB8.out.then hBW)
          obtain rfl | rfl | rfl | rfl | rfl | rfl | rfl | rfl | rfl | rfl | rfl := (show i = 0 ∨ i = 1 ∨ i = 2 ∨ i = 3 ∨ i = 4 ∨ i = 5 ∨ i = 6 ∨ i = 7 ∨ i = 8 ∨ i = 9 ∨ i = 10 by exact (by have : i < 11 := hi; omega))
          · simp only [getElem?_toArray, getElem?_cons_zero, getElem?_cons_succ, Option.some.injEq] at ho
            subst ho
            rw [if_pos (by rfl)]
            simp only [put_someT, setIfInBounds_toArray, set_cons_zero, set_cons_succ] at hK
            have HK := Lib.hid hK
            clear hK he hi hBW
            go_simp
            exact HK.out _ _ (by first | rfl | simp [on11]) (Below.refl _ _)
          · simp only [getElem?_toArray, getElem?_cons_zero, getElem?_cons_succ, Option.some.injEq] at ho
            subst ho
            rw [if_pos (by rfl)]
            simp only [put_someT, setIfInBounds_toArray, set_cons_zero, set_cons_succ] at hK
            have HK := Lib.hid hK
            clear hK he hi hBW
            go_simp
            exact HK.out _ _ (by first | rfl | simp [on11]) (Below.refl _ _)
          · simp only [getElem?_toArray, getElem?_cons_zero, getElem?_cons_succ, Option.some.injEq] at ho
            subst ho
            have e1 : vs 1 = .int .i64 x := (he ⟨1, .data⟩ (by simp) rfl : on11 T R x b2 1 (vs 1) W)
            rw [e1] at hK ⊢
            rw [if_pos (by rfl)]
            simp only [put_someT, setIfInBounds_toArray, set_cons_zero, set_cons_succ] at hK
            have HK := Lib.hid hK
            clear hK he hi hBW
            go_simp
            exact HK.out _ _ ⟨some ⟨W.heap.size, 0, none⟩, 1, rfl, rd_int (by simp) ((World.cell?_alloc_at _ _ _ _ rfl).trans rfl)⟩ ((Below.refl _ _).alloc (Nat.le_refl _) _)
          · simp only [getElem?_toArray, getElem?_cons_zero, getElem?_cons_succ, Option.some.injEq] at ho
            subst ho
            rw [if_pos (by rfl)]
            simp only [put_someT, setIfInBounds_toArray, set_cons_zero, set_cons_succ] at hK
            have HK := Lib.hid hK
            clear hK he hi hBW
            obtain ⟨_, c0, c1, c2, c3, c4, c5, c6⟩ := RBW.out
            go_simp
            exact HK.out _ _ rfl (Below.refl _ _)
          · simp only [getElem?_toArray, getElem?_cons_zero, getElem?_cons_succ, Option.some.injEq] at ho
            subst ho
            have e0 : vs 0 = .pointer (some ⟨T, 0, none⟩) := (he ⟨0, .data⟩ (by simp) rfl : on11 T R x b2 0 (vs 0) W)
            rw [e0] at hK ⊢
            obtain ⟨A9, c9, e9, r9⟩ := (he ⟨2, .data⟩ (by simp) rfl : on11 T R x b2 2 (vs 2) W)
            rw [e9] at hK ⊢
            have R9 := Lib.hid r9
            have e3 : vs 3 = .agg #[.int .u8 R.kind, .string (bs R.dep.name), .int .u8 R.dep.op, .int .i64 R.dep.evr.epoch, .string (bs R.dep.evr.ver), .string (bs R.dep.evr.rel), .slice R.addr R.args.length R.cap] := (he ⟨3, .data⟩ (by simp) rfl : on11 T R x b2 3 (vs 3) W)
            rw [e3] at hK ⊢
            rw [if_pos (by rfl)]
            simp only [put_someT, setIfInBounds_toArray, set_cons_zero, set_cons_succ] at hK
            have HK := Lib.hid hK
            clear hK he hi hBW
            have CW := SX8.out W BW.out A9 c9 R9.out
            go_simp
            go_at_call 40
            refine CW.mono ?_
            rintro en w9 ⟨rfl, h⟩
            go_simp
            exact HK.out _ _ rfl h
          · simp only [getElem?_toArray, getElem?_cons_zero, getElem?_cons_succ, Option.some.injEq] at ho
            subst ho
            rw [if_pos (by rfl)]
            simp only [put_someT, setIfInBounds_toArray, set_cons_zero, set_cons_succ] at hK
            have HK := Lib.hid hK
            clear hK he hi hBW
            go_simp
            exact HK.out _ _ (by first | rfl | simp [on11]) (Below.refl _ _)
          · simp only [getElem?_toArray, getElem?_cons_zero, getElem?_cons_succ, Option.some.injEq] at ho
            subst ho
            rw [if_pos (by rfl)]
            simp only [put_someT, setIfInBounds_toArray, set_cons_zero, set_cons_succ] at hK
            have HK := Lib.hid hK
            clear hK he hi hBW
            go_simp
            exact HK.out _ _ (by first | rfl | simp [on11]) (Below.refl _ _)
          · simp only [getElem?_toArray, getElem?_cons_zero, getElem?_cons_succ, Option.some.injEq] at ho
            subst ho
            rw [if_pos (by rfl)]
            simp only [put_someT, setIfInBounds_toArray, set_cons_zero, set_cons_succ] at hK
            have HK := Lib.hid hK
            clear hK he hi hBW
            obtain ⟨_, c0, c1, c2, c3, c4, c5, c6⟩ := RBW.out
            go_simp
            exact HK.out _ _ rfl (Below.refl _ _)
          · simp only [getElem?_toArray, getElem?_cons_zero, getElem?_cons_succ, Option.some.injEq] at ho
            subst ho
            have e5 : vs 5 = .pointer (some ⟨T, 0, none⟩) := (he ⟨5, .data⟩ (by simp) rfl : on11 T R x b2 5 (vs 5) W)
            rw [e5] at hK ⊢
            have e6 : vs 6 = .int .i64 x := (he ⟨6, .data⟩ (by simp) rfl : on11 T R x b2 6 (vs 6) W)
            rw [e6] at hK ⊢
            have e7 : vs 7 = .agg #[.int .u8 R.kind, .string (bs R.dep.name), .int .u8 R.dep.op, .int .i64 R.dep.evr.epoch, .string (bs R.dep.evr.ver), .string (bs R.dep.evr.rel), .slice R.addr R.args.length R.cap] := (he ⟨7, .data⟩ (by simp) rfl : on11 T R x b2 7 (vs 7) W)
            rw [e7] at hK ⊢
            rw [if_pos (by rfl)]
            simp only [put_someT, setIfInBounds_toArray, set_cons_zero, set_cons_succ] at hK
            have HK := Lib.hid hK
            clear hK he hi hBW
            have CW := AL8.out W BW.out
            go_simp
            go_at_call 43
            refine CW.mono ?_
            rintro en w9 ⟨rfl, h⟩
            go_simp
            exact HK.out _ _ rfl h
          · simp only [getElem?_toArray, getElem?_cons_zero, getElem?_cons_succ, Option.some.injEq] at ho
            subst ho
            have e4 : vs 4 = .bool b2 := (he ⟨4, .data⟩ (by simp) rfl : on11 T R x b2 4 (vs 4) W)
            rw [e4] at hK ⊢
            have e8 : vs 8 = .bool b2 := (he ⟨8, .data⟩ (by simp) rfl : on11 T R x b2 8 (vs 8) W)
            rw [e8] at hK ⊢
            rw [if_pos (by rfl)]
            simp only [put_someT, setIfInBounds_toArray, set_cons_zero, set_cons_succ] at hK
            have HK := Lib.hid hK
            clear hK he hi hBW
            go_simp
            exact HK.out _ _ (by simp [on11]) (Below.refl _ _)
          · simp only [getElem?_toArray, getElem?_cons_zero, getElem?_cons_succ, Option.some.injEq] at ho
            subst ho
            have e9 : vs 9 = .bool true := (he ⟨9, .data⟩ (by simp) rfl : on11 T R x b2 9 (vs 9) W)
            rw [e9] at hK ⊢
            rw [if_pos (by rfl)]
            simp only [put_someT, setIfInBounds_toArray, set_cons_zero, set_cons_succ] at hK
            have HK := Lib.hid hK
            clear hK he hi hBW
            go_simp
            exact HK.out _ _ (by first | rfl | simp [on11]) (Below.refl _ _)
        · intro vs W9 hall hBW
          have eo : vs 10 = .bool true := hall 10 (by decide)
          simp only [take_succ_cons, take_zero, List.drop_succ_cons, List.drop_zero, fillV, put_someT, put_noneC, setIfInBounds_toArray, set_cons_zero, set_cons_succ]
          rw [eo]
          generalize vs 0 = q0
          generalize vs 1 = q1
          generalize vs 2 = q2
          generalize vs 3 = q3
          generalize vs 4 = q4
          generalize vs 5 = q5
          generalize vs 6 = q6
          generalize vs 7 = q7
          generalize vs 8 = q8
          generalize vs 9 = q9
          have B9 := Lib.hid (B8.out.trans (hBW.mono B8.out.size))
          clear hall hBW eo
          go_wp2_with fail
          go_ret
          exact ⟨rfl, B9.out⟩
end Go.Proofs.YteobmfpbgnmffaaGreatDoor
