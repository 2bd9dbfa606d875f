/- PkNm -/
import Derived.Test.YtcpjignlhlcnpaaDoorPkgNamesRowG44
import Derived.Test.YtcpjignlhlcnpaaDoorPkgNamesRowG45
import Derived.Deep.RegionLaw
import Derived.Deep.Cut
set_option linter.unusedSimpArgs false
set_option linter.unusedVariables false
open List (getElem?_toArray getElem?_cons_zero getElem?_cons_succ setIfInBounds_toArray set_cons_zero set_cons_succ take_succ_cons take_zero)
/- PkgNames, walked. -/




namespace Go.Proofs.YtcpjignlhlcnpaaDoor
open Go.RowKit Go.Shelf
open List (getElem?_toArray getElem?_cons_zero getElem?_cons_succ setIfInBounds_toArray set_cons_zero set_cons_succ take_succ_cons take_zero)
set_option linter.unusedVariables false

theorem put_someN {t : Array Value} {ds : List Deferred} {d : Tmp} {v : Value} : Act.put ⟨t, ds⟩ (some d) v = ⟨t.setIfInBounds d v, ds⟩ := rfl
set_option maxRecDepth 100000 in
set_option maxHeartbeats 16000000 in
theorem atomn_any (s : ByteArray) (w : World) : Calls Tryd.prog 4 #[.string s] w fun r w' => r = .returned (.agg #[.int .u8 1, .string s, .int .u8 0, .int .i64 0, .string ⟨#[]⟩, .string ⟨#[]⟩, .slice none 0 0]) ∧ Below w.heap.size w w' := by
  go_enter Tryd.func4, Tryd.ntmps4
  go_wp2_with fail
  exact bodyPost_ret (v := .agg #[.int .u8 1, .string s, .int .u8 0, .int .i64 0, .string ⟨#[]⟩, .string ⟨#[]⟩, .slice none 0 0]) (by simp [results, Tryd.results4, go_sem]) rfl ⟨rfl, (Below.refl _ _).alloc (Nat.le_refl _) _⟩
def pnA (F U : RV) (X : Nat → Prop) (gb : Nat) (i : Nat) (v : Value) (W : World) : Prop := match i with
  | 0 => v = .agg #[.int .u8 F.kind, .string (bs F.dep.name), .int .u8 F.dep.op, .int .i64 F.dep.evr.epoch, .string (bs F.dep.evr.ver), .string (bs F.dep.evr.rel), .slice F.addr F.args.length F.cap]
  | 1 => v = .agg #[.int .u8 U.kind, .string (bs U.dep.name), .int .u8 U.dep.op, .int .i64 U.dep.evr.epoch, .string (bs U.dep.evr.ver), .string (bs U.dep.evr.rel), .slice U.addr U.args.length U.cap]
  | 2 => v = .func (.func 4) #[] #[]
  | 3 => v = .agg #[.int .u8 1, .string ⟨#[99]⟩, .int .u8 0, .int .i64 0, .string ⟨#[]⟩, .string ⟨#[]⟩, .slice none 0 0]
  | 4 => ∃ h, v = .slice (some ⟨h, 0, none⟩) 3 3 ∧ RRS X (some ⟨h, 0, none⟩) 3 [F, U, atomR [99]] W
  | 5 => v = .pointer (some ⟨gb, 7, none⟩)
  | _ => False
theorem pnA_mono (F U : RV) (X : Nat → Prop) (gb : Nat) : ∀ i v w w', pnA F U X gb i v w → Below w.heap.size w w' → pnA F U X gb i v w' := by
  intro i v w w' h hb
  match i, h with
  | 0, h => exact h
  | 1, h => exact h
  | 2, h => exact h
  | 3, h => exact h
  | 4, h => obtain ⟨q, e, hr⟩ := h; exact ⟨q, e, hr.keep (.of hb)⟩
  | 5, h => exact h
  | (k + 6), h => exact h.elim
def pnB (b g k : Nat) (i : Nat) (v : Value) (W : World) : Prop := match i with
  | 0 => v = .pointer (some ⟨b, 7, none⟩)
  | 1 => v = .slice (some ⟨g, 0, none⟩) 33 33
  | 2 => v = .int .i64 (k : Int)
  | 3 => v = .func (.func 4) #[] #[]
  | 4 => v = .agg #[.int .u8 1, .string ⟨#[97]⟩, .int .u8 0, .int .i64 0, .string ⟨#[]⟩, .string ⟨#[]⟩, .slice none 0 0]
  | 5 => v = .pointer (some ⟨g, k * 7, none⟩)
  | _ => False
theorem pnB_mono (b g k : Nat) : ∀ i v w w', pnB b g k i v w → Below w.heap.size w w' → pnB b g k i v w' := by
  intro i v w w' h hb
  match i, h with
  | 0, h => exact h
  | 1, h => exact h
  | 2, h => exact h
  | 3, h => exact h
  | 4, h => exact h
  | 5, h => exact h
  | (k + 6), h => exact h.elim
set_option maxRecDepth 100000 in
set_option maxHeartbeats 64000000 in
theorem pkgNames_row (w : World) (hI : PkIn w) : Calls Tryd.prog 3 #[] w fun e w' => e = .returned (.bool true) ∧ Below w.heap.size w w' := by
  have HI := Lib.hid hI
  clear hI
  go_enter Tryd.func3, Tryd.ntmps3
  go_wp2_with fail
  go_at_call 4
  refine (atomn_any _ _).mono ?_
  rintro en w1 ⟨rfl, h⟩
  have B1 := Lib.hid h
  clear h
  go_wp2_with fail
  go_at_call 4
  refine (atomn_any _ _).mono ?_
  rintro en w2 ⟨rfl, h⟩
  have B2 := Lib.hid (B1.out.trans (h.mono B1.out.size))
  clear h B1
  go_upto_region 3 with fail
  obtain ⟨F, hF⟩ : ∃ F, F = twoR 4 w2.heap.size := ⟨_, rfl⟩
  obtain ⟨bF, hbF⟩ : ∃ b, b = w2.heap.size + 1 := ⟨_, rfl⟩
  obtain ⟨fB, fT, fO⟩ := two_made 4 w2 _ rfl
  rw [← hF, ← hbF] at fB
  rw [← hF] at fT
  rw [← hbF]
  obtain ⟨V2, hV2⟩ : ∃ V, V = ((w2.alloc (.cells #[.int .u8 1, .string ⟨#[97]⟩, .int .u8 0, .int .i64 0, .string ⟨#[]⟩, .string ⟨#[]⟩, .slice none 0 0, .int .u8 1, .string ⟨#[98]⟩, .int .u8 0, .int .i64 0, .string ⟨#[]⟩, .string ⟨#[]⟩, .slice none 0 0] 28)).alloc (.cells #[.int .u8 4, .string ⟨#[]⟩, .int .u8 0, .int .i64 0, .string ⟨#[]⟩, .string ⟨#[]⟩, .slice (some ⟨w2.heap.size, 0, none⟩) 2 2] 28)) := ⟨_, rfl⟩
  rw [← hV2] at fB fT fO ⊢
  have FE := Lib.hid (show F.tree = twoT 4 by rw [hF]; rfl)
  have FB := Lib.hid fB
  have FT := Lib.hid fT
  have B3 := Lib.hid (B2.out.trans (fO.mono B2.out.size))
  clear hV2 fB fT fO B2 hF hbF
  go_wp2_with fail
  go_at_call 4
  refine (atomn_any _ _).mono ?_
  rintro en w3 ⟨rfl, h⟩
  have FB := Lib.hid (FB.out.then h)
  have FT := Lib.hid ((FT.out.keeps h).more h.size)
  have B4 := Lib.hid (B3.out.trans (h.mono B3.out.size))
  clear h B3
  go_wp2_with fail
  go_at_call 4
  refine (atomn_any _ _).mono ?_
  rintro en w4 ⟨rfl, h⟩
  have FB := Lib.hid (FB.out.then h)
  have FT := Lib.hid ((FT.out.keeps h).more h.size)
  have B5 := Lib.hid (B4.out.trans (h.mono B4.out.size))
  clear h B4
  go_upto_region 4 with fail
  obtain ⟨U, hU⟩ : ∃ F, F = twoR 5 w4.heap.size := ⟨_, rfl⟩
  obtain ⟨bU, hbU⟩ : ∃ b, b = w4.heap.size + 1 := ⟨_, rfl⟩
  obtain ⟨fB, fT, fO⟩ := two_made 5 w4 _ rfl
  rw [← hU, ← hbU] at fB
  rw [← hU] at fT
  rw [← hbU]
  obtain ⟨V4, hV4⟩ : ∃ V, V = ((w4.alloc (.cells #[.int .u8 1, .string ⟨#[97]⟩, .int .u8 0, .int .i64 0, .string ⟨#[]⟩, .string ⟨#[]⟩, .slice none 0 0, .int .u8 1, .string ⟨#[98]⟩, .int .u8 0, .int .i64 0, .string ⟨#[]⟩, .string ⟨#[]⟩, .slice none 0 0] 28)).alloc (.cells #[.int .u8 5, .string ⟨#[]⟩, .int .u8 0, .int .i64 0, .string ⟨#[]⟩, .string ⟨#[]⟩, .slice (some ⟨w4.heap.size, 0, none⟩) 2 2] 28)) := ⟨_, rfl⟩
  rw [← hV4] at fB fT fO ⊢
  have UE := Lib.hid (show U.tree = twoT 5 by rw [hU]; rfl)
  have UB := Lib.hid fB
  have UT := Lib.hid fT
  have FB := Lib.hid (FB.out.then fO)
  have FT := Lib.hid ((FT.out.keeps fO).more fO.size)
  have B6 := Lib.hid (B5.out.trans (fO.mono B5.out.size))
  clear hV4 fB fT fO B5 hU hbU
  go_wp2_with fail
  go_at_call 5
  refine (one10_any _).mono ?_
  rintro en w5 ⟨rfl, h⟩
  have FB := Lib.hid (FB.out.then h)
  have FT := Lib.hid ((FT.out.keeps h).more h.size)
  have UB := Lib.hid (UB.out.then h)
  have UT := Lib.hid ((UT.out.keeps h).more h.size)
  have B7 := Lib.hid (B6.out.trans (h.mono B6.out.size))
  clear h B6
  have mk := make32 (w5.alloc (.cells #[.string ⟨#[97]⟩, .int .i64 0, .string ⟨#[49]⟩, .string ⟨#[49]⟩, .int .u8 1, .string ⟨#[]⟩, .slice none 0 0, .slice none 0 0, .slice none 0 0, .slice none 0 0, .slice none 0 0, .slice none 0 0, .slice none 0 0, .slice none 0 0, .slice none 0 0] 33))
  go_upto_region 6 with fail
  clear mk
  obtain ⟨V, hV⟩ : ∃ V, V = (w5.alloc (.cells #[.string ⟨#[97]⟩, .int .i64 0, .string ⟨#[49]⟩, .string ⟨#[49]⟩, .int .u8 1, .string ⟨#[]⟩, .slice (some ⟨w5.heap.size + 1, 0, none⟩) 32 32, .slice none 0 0, .slice none 0 0, .slice none 0 0, .slice none 0 0, .slice none 0 0, .slice none 0 0, .slice none 0 0, .slice none 0 0] 33)).alloc (.cells dep32 25) := ⟨_, rfl⟩
  obtain ⟨n0, o0, z0⟩ := nm_start w5 V (by rw [hV]; simp [go_sem])
  rw [← hV]
  obtain ⟨q0, hq0⟩ : ∃ q, q = g0 (some ⟨w5.heap.size + 1, 0, none⟩) := ⟨_, rfl⟩
  rw [← hq0] at n0
  have AQ := Lib.hid (gs0 hq0)
  have PV := Lib.hid (show q0.prov = List.replicate 32 zeroT ∧ q0.provA = some ⟨w5.heap.size + 1, 0, none⟩ ∧ q0.provC = 32 by rw [hq0]; exact ⟨rfl, rfl, rfl⟩)
  have NM := Lib.hid n0
  have OW := Lib.hid o0
  have ZV := Lib.hid (show w5.heap.size + 2 ≤ V.heap.size by omega)
  have TSF := Lib.hid (fun W (h : Below w5.heap.size w5 W) => TS.of (X := xN w5.heap.size) (FT.out.keeps h) h.size (fun b hb hx => by rcases hx with rfl | rfl <;> omega))
  have TSU := Lib.hid (fun W (h : Below w5.heap.size w5 W) => TS.of (X := xN w5.heap.size) (UT.out.keeps h) h.size (fun b hb hx => by rcases hx with rfl | rfl <;> omega))
  have FBP := Lib.hid (fun W (h : Below w5.heap.size w5 W) => FB.out.past h FB.out.1)
  have UBP := Lib.hid (fun W (h : Below w5.heap.size w5 W) => UB.out.past h UB.out.1)
  clear hV n0 o0 z0 hq0 FT UT FB UB
  refine wp_region_tail (PP := pnA F U (xN w5.heap.size) w5.heap.size) 6 rfl (by kernel_rfl) (by kernel_rfl) (by decide) (by decide) (pnA_mono F U (xN w5.heap.size) w5.heap.size) (fun _ => undef) (by simp [fillV, put_someN, setIfInBounds_toArray, set_cons_zero, set_cons_succ]) ?_ ?_
  · intro i o vs W hi ho he hBW K hK
    simp only [take_succ_cons, take_zero, fillV, put_someN, setIfInBounds_toArray, set_cons_zero, set_cons_succ] at hK ⊢
    have NMW := Lib.hid (NM.out.then hBW)
    have ZW := Lib.hid (Nat.le_trans ZV.out hBW.size)
    obtain rfl | rfl | rfl | rfl | rfl | rfl := (show i = 0 ∨ i = 1 ∨ i = 2 ∨ i = 3 ∨ i = 4 ∨ i = 5 by exact (by have : i < 6 := hi; omega))
    · simp only [getElem?_toArray, getElem?_cons_zero, getElem?_cons_succ, Option.some.injEq] at ho
      subst ho
      rw [if_pos (by rfl)]
      simp only [put_someN, setIfInBounds_toArray, set_cons_zero, set_cons_succ] at hK
      have HK := Lib.hid hK
      clear hK he hi hBW
      obtain ⟨_, x0, x1, x2, x3, x4, x5, x6⟩ := FBP.out W NMW.out.old
      go_simp
      exact HK.out _ _ rfl (Below.refl _ _)
    · simp only [getElem?_toArray, getElem?_cons_zero, getElem?_cons_succ, Option.some.injEq] at ho
      subst ho
      rw [if_pos (by rfl)]
      simp only [put_someN, setIfInBounds_toArray, set_cons_zero, set_cons_succ] at hK
      have HK := Lib.hid hK
      clear hK he hi hBW
      obtain ⟨_, x0, x1, x2, x3, x4, x5, x6⟩ := UBP.out W NMW.out.old
      go_simp
      exact HK.out _ _ rfl (Below.refl _ _)
    · simp only [getElem?_toArray, getElem?_cons_zero, getElem?_cons_succ, Option.some.injEq] at ho
      subst ho
      rw [if_pos (by rfl)]
      simp only [put_someN, setIfInBounds_toArray, set_cons_zero, set_cons_succ] at hK
      have HK := Lib.hid hK
      clear hK he hi hBW
      go_simp
      exact HK.out _ _ (by first | rfl | simp [pnA]) (Below.refl _ _)
    · simp only [getElem?_toArray, getElem?_cons_zero, getElem?_cons_succ, Option.some.injEq] at ho
      subst ho
      have e2 : vs 2 = .func (.func 4) #[] #[] := (he ⟨2, .data⟩ (by simp) rfl : pnA F U (xN w5.heap.size) w5.heap.size 2 (vs 2) W)
      rw [e2] at hK ⊢
      rw [if_pos (by rfl)]
      simp only [put_someN, setIfInBounds_toArray, set_cons_zero, set_cons_succ] at hK
      have HK := Lib.hid hK
      clear hK he hi hBW
      go_simp
      go_at_call 4
      refine (atomn_any _ _).mono ?_
      rintro en w9 ⟨rfl, h⟩
      go_simp
      exact HK.out _ _ rfl h
    · simp only [getElem?_toArray, getElem?_cons_zero, getElem?_cons_succ, Option.some.injEq] at ho
      subst ho
      have e0 : vs 0 = .agg #[.int .u8 F.kind, .string (bs F.dep.name), .int .u8 F.dep.op, .int .i64 F.dep.evr.epoch, .string (bs F.dep.evr.ver), .string (bs F.dep.evr.rel), .slice F.addr F.args.length F.cap] := (he ⟨0, .data⟩ (by simp) rfl : pnA F U (xN w5.heap.size) w5.heap.size 0 (vs 0) W)
      rw [e0] at hK ⊢
      have e1 : vs 1 = .agg #[.int .u8 U.kind, .string (bs U.dep.name), .int .u8 U.dep.op, .int .i64 U.dep.evr.epoch, .string (bs U.dep.evr.ver), .string (bs U.dep.evr.rel), .slice U.addr U.args.length U.cap] := (he ⟨1, .data⟩ (by simp) rfl : pnA F U (xN w5.heap.size) w5.heap.size 1 (vs 1) W)
      rw [e1] at hK ⊢
      have e3 : vs 3 = .agg #[.int .u8 1, .string ⟨#[99]⟩, .int .u8 0, .int .i64 0, .string ⟨#[]⟩, .string ⟨#[]⟩, .slice none 0 0] := (he ⟨3, .data⟩ (by simp) rfl : pnA F U (xN w5.heap.size) w5.heap.size 3 (vs 3) W)
      rw [e3] at hK ⊢
      rw [if_pos (by rfl)]
      simp only [put_someN, setIfInBounds_toArray, set_cons_zero, set_cons_succ] at hK
      have HK := Lib.hid hK
      clear hK he hi hBW
      go_simp
      refine HK.out _ _ ⟨W.heap.size, rfl, RRS.lit (l := [F, U, atomR [99]]) (n := 3) rfl rfl (by decide) (fun hx => by have := ZW.out; rcases hx with h | h <;> omega) (fun t ht => ?_)⟩ ((Below.refl _ W).alloc (Nat.le_refl _) _)
      simp only [List.mem_cons, List.not_mem_nil, or_false] at ht
      rcases ht with rfl | rfl | rfl
      · exact TSF.out W NMW.out.old
      · exact TSU.out W NMW.out.old
      · exact atomR_ts _ _ _ (by decide)
    · simp only [getElem?_toArray, getElem?_cons_zero, getElem?_cons_succ, Option.some.injEq] at ho
      subst ho
      rw [if_pos (by rfl)]
      simp only [put_someN, setIfInBounds_toArray, set_cons_zero, set_cons_succ] at hK
      have HK := Lib.hid hK
      clear hK he hi hBW
      go_simp
      exact HK.out _ _ (by first | rfl | simp [pnA]) (Below.refl _ _)
  intro vs W hall hBW
  obtain ⟨h4, e4, hr4⟩ : ∃ h, vs 4 = .slice (some ⟨h, 0, none⟩) 3 3 ∧ RRS (xN w5.heap.size) (some ⟨h, 0, none⟩) 3 [F, U, atomR [99]] W := hall 4 (by decide)
  have e5 : vs 5 = .pointer (some ⟨w5.heap.size, 7, none⟩) := hall 5 (by decide)
  simp only [take_succ_cons, take_zero, List.drop_succ_cons, List.drop_zero, fillV, put_someN, put_noneC, setIfInBounds_toArray, set_cons_zero, set_cons_succ]
  rw [e4, e5]
  generalize vs 0 = y0
  generalize vs 1 = y1
  generalize vs 2 = y2
  generalize vs 3 = y3
  have NM := Lib.hid (NM.out.then hBW)
  have OW := Lib.hid (OW.out.below hBW (Nat.le_refl _))
  have ZV := Lib.hid (Nat.le_trans ZV.out hBW.size)
  have RR := Lib.hid hr4
  clear hall hBW e4 e5 hr4
  obtain ⟨⟨bl, c0, c1, c2, c3, c4, c5, c6, c7, c8, c9, c10, c11, c12, c13, c14⟩, bf, bz⟩ := NM.out.box
  have f7 := bf 7 (by decide)
  go_upto_region 7 with fail
  clear bl bf bz c0 c1 c2 c3 c4 c5 c6 c7 c8 c9 c10 c11 c12 c13 c14 f7
  have n1 : NmP (xN w5.heap.size) w5.heap.size { q0 with reqA := some ⟨h4, 0, none⟩, reqC := 3, req := [F, U, atomR [99]] } w5 (W.setCell ⟨w5.heap.size, 7, none⟩ (.slice (some ⟨h4, 0, none⟩) 3 3)) := NM.out.req RR.out
  have OW := Lib.hid (OW.out.butR (ButR.refl w5.heap.size _ |>.set 7 (.slice (some ⟨h4, 0, none⟩) 3 3)) (Nat.lt_succ_self w5.heap.size))
  obtain ⟨q1, hq1⟩ : ∃ q, q = { q0 with reqA := some ⟨h4, 0, none⟩, reqC := 3, req := [F, U, atomR [99]] } := ⟨_, rfl⟩
  rw [← hq1] at n1
  have AQ := Lib.hid (gs1 AQ.out hq1 (by simp only [treeL, FE.out, UE.out]; rfl))
  have PV := Lib.hid (show q1.prov = List.replicate 32 zeroT ∧ q1.provA = some ⟨w5.heap.size + 1, 0, none⟩ ∧ q1.provC = 32 by rw [hq1]; exact PV.out)
  have ZV := Lib.hid (show w5.heap.size + 2 ≤ (W.setCell ⟨w5.heap.size, 7, none⟩ (.slice (some ⟨h4, 0, none⟩) 3 3)).heap.size by have := ZV.out; simpa [World.setCell] using this)
  have NM := Lib.hid n1
  clear n1 hq1
  obtain ⟨X1, hX1⟩ : ∃ V, V = W.setCell ⟨w5.heap.size, 7, none⟩ (.slice (some ⟨h4, 0, none⟩) 3 3) := ⟨_, rfl⟩
  rw [← hX1] at NM OW ZV ⊢
  clear hX1
  generalize (Value.agg #[.int .u8 4, .string ⟨#[]⟩, .int .u8 0, .int .i64 0, .string ⟨#[]⟩, .string ⟨#[]⟩, .slice (some ⟨w2.heap.size, 0, none⟩) 2 2]) = gv0
  generalize (Value.agg #[.int .u8 5, .string ⟨#[]⟩, .int .u8 0, .int .i64 0, .string ⟨#[]⟩, .string ⟨#[]⟩, .slice (some ⟨w4.heap.size, 0, none⟩) 2 2]) = gv1
  generalize (Value.agg #[.int .u8 1, .string ⟨#[97]⟩, .int .u8 0, .int .i64 0, .string ⟨#[]⟩, .string ⟨#[]⟩, .slice none 0 0]) = gv2
  generalize (Value.agg #[.int .u8 1, .string ⟨#[98]⟩, .int .u8 0, .int .i64 0, .string ⟨#[]⟩, .string ⟨#[]⟩, .slice none 0 0]) = gv3
  generalize (Value.agg #[.string ⟨#[97]⟩, .int .i64 0, .string ⟨#[49]⟩, .string ⟨#[49]⟩, .int .u8 1, .string ⟨#[]⟩, .slice none 0 0, .slice none 0 0, .slice none 0 0, .slice none 0 0, .slice none 0 0, .slice none 0 0, .slice none 0 0, .slice none 0 0, .slice none 0 0]) = gv4
  generalize (Value.slice (some ⟨w2.heap.size, 0, none⟩) 2 2) = gv5
  generalize (Value.slice (some ⟨w4.heap.size, 0, none⟩) 2 2) = gv6
  generalize (Value.slice (some ⟨h4, 0, none⟩) 3 3) = gv7
  have ha := (Below.refl X1.heap.size X1).alloc (Nat.le_refl _) (.cells #[.int .u8 U.kind, .string (bs U.dep.name), .int .u8 U.dep.op, .int .i64 U.dep.evr.epoch, .string (bs U.dep.evr.ver), .string (bs U.dep.evr.rel), .slice U.addr U.args.length U.cap] 28)
  have hnx : ¬ xN w5.heap.size X1.heap.size := fun hx => by have := ZV.out; rcases hx with h | h <;> omega
  have BZ := Lib.hid NM.out.box.2.2
  have RR := Lib.hid (RRS.lit (X := xN w5.heap.size) (l := [U]) (cs := #[.int .u8 U.kind, .string (bs U.dep.name), .int .u8 U.dep.op, .int .i64 U.dep.evr.epoch, .string (bs U.dep.evr.ver), .string (bs U.dep.evr.rel), .slice U.addr U.args.length U.cap]) (e := 28) (n := 1) rfl rfl (by decide) hnx (fun t ht => by simp only [List.mem_cons, List.not_mem_nil, or_false] at ht; subst ht; exact TSU.out X1 NM.out.old))
  have NM2 := Lib.hid (NM.out.then ha)
  have OW2 := Lib.hid (OW.out.below ha (Nat.le_refl _))
  have ZV2 := Lib.hid (Nat.le_trans ZV.out ha.size)
  obtain ⟨_, u0, u1, u2, u3, u4, u5, u6⟩ := UBP.out X1 NM.out.old
  obtain ⟨⟨bl, c0, c1, c2, c3, c4, c5, c6, c7, c8, c9, c10, c11, c12, c13, c14⟩, bf, bz⟩ := NM.out.box
  have ff := bf 8 (by decide)
  have bn : w5.heap.size ≠ X1.heap.size := by have := NM.out.box.2.2; omega
  clear ha hnx
  go_upto_region 8 with fail
  clear bl bf bz c0 c1 c2 c3 c4 c5 c6 c7 c8 c9 c10 c11 c12 c13 c14 ff bn
  have NM := NM2
  have OW := OW2
  have ZV := ZV2
  have n1 : NmP (xN w5.heap.size) w5.heap.size { q1 with conA := some ⟨X1.heap.size, 0, none⟩, conC := 1, con := [U] } w5 ((X1.alloc (.cells #[.int .u8 U.kind, .string (bs U.dep.name), .int .u8 U.dep.op, .int .i64 U.dep.evr.epoch, .string (bs U.dep.evr.ver), .string (bs U.dep.evr.rel), .slice U.addr U.args.length U.cap] 28)).setCell ⟨w5.heap.size, 8, none⟩ (.slice (some ⟨X1.heap.size, 0, none⟩) 1 1)) := NM.out.con RR.out
  have OW := Lib.hid (OW.out.butR (ButR.refl w5.heap.size _ |>.set 8 (.slice (some ⟨X1.heap.size, 0, none⟩) 1 1)) (Nat.lt_succ_self w5.heap.size))
  obtain ⟨q2, hq2⟩ : ∃ q, q = { q1 with conA := some ⟨X1.heap.size, 0, none⟩, conC := 1, con := [U] } := ⟨_, rfl⟩
  rw [← hq2] at n1
  have AQ := Lib.hid (gs2 AQ.out hq2 (by simp only [treeL, UE.out]; rfl))
  have PV := Lib.hid (show q2.prov = List.replicate 32 zeroT ∧ q2.provA = some ⟨w5.heap.size + 1, 0, none⟩ ∧ q2.provC = 32 by rw [hq2]; exact PV.out)
  have ZV := Lib.hid (show w5.heap.size + 2 ≤ ((X1.alloc (.cells #[.int .u8 U.kind, .string (bs U.dep.name), .int .u8 U.dep.op, .int .i64 U.dep.evr.epoch, .string (bs U.dep.evr.ver), .string (bs U.dep.evr.rel), .slice U.addr U.args.length U.cap] 28)).setCell ⟨w5.heap.size, 8, none⟩ (.slice (some ⟨X1.heap.size, 0, none⟩) 1 1)).heap.size by have := ZV.out; simpa [World.setCell] using this)
  have NM := Lib.hid n1
  clear n1 hq2
  rw [← set_alloc X1 (.cells #[.int .u8 U.kind, .string (bs U.dep.name), .int .u8 U.dep.op, .int .i64 U.dep.evr.epoch, .string (bs U.dep.evr.ver), .string (bs U.dep.evr.rel), .slice U.addr U.args.length U.cap] 28) ⟨w5.heap.size, 8, none⟩ (.slice (some ⟨X1.heap.size, 0, none⟩) 1 1) BZ.out]
  obtain ⟨X2, hX2⟩ : ∃ V, V = (X1.alloc (.cells #[.int .u8 U.kind, .string (bs U.dep.name), .int .u8 U.dep.op, .int .i64 U.dep.evr.epoch, .string (bs U.dep.evr.ver), .string (bs U.dep.evr.rel), .slice U.addr U.args.length U.cap] 28)).setCell ⟨w5.heap.size, 8, none⟩ (.slice (some ⟨X1.heap.size, 0, none⟩) 1 1) := ⟨_, rfl⟩
  rw [← hX2] at NM OW ZV ⊢
  clear hX2
  clear u0 u1 u2 u3 u4 u5 u6
  go_wp2_with fail
  go_at_call 4
  refine (atomn_any _ _).mono ?_
  rintro en X3 ⟨rfl, h⟩
  have NM := Lib.hid (NM.out.then h)
  have OW := Lib.hid (OW.out.below h (Nat.le_refl _))
  have ZV := Lib.hid (Nat.le_trans ZV.out h.size)
  clear h
  have ha := (Below.refl X3.heap.size X3).alloc (Nat.le_refl _) (.cells #[.int .u8 1, .string ⟨#[100]⟩, .int .u8 0, .int .i64 0, .string ⟨#[]⟩, .string ⟨#[]⟩, .slice none 0 0] 28)
  have hnx : ¬ xN w5.heap.size X3.heap.size := fun hx => by have := ZV.out; rcases hx with h | h <;> omega
  have BZ := Lib.hid NM.out.box.2.2
  have RR := Lib.hid (RRS.lit (X := xN w5.heap.size) (l := [atomR [100]]) (cs := #[.int .u8 1, .string ⟨#[100]⟩, .int .u8 0, .int .i64 0, .string ⟨#[]⟩, .string ⟨#[]⟩, .slice none 0 0]) (e := 28) (n := 1) rfl rfl (by decide) hnx (fun t ht => by simp only [List.mem_cons, List.not_mem_nil, or_false] at ht; subst ht; exact atomR_ts _ _ _ (by decide)))
  have NM2 := Lib.hid (NM.out.then ha)
  have OW2 := Lib.hid (OW.out.below ha (Nat.le_refl _))
  have ZV2 := Lib.hid (Nat.le_trans ZV.out ha.size)
  obtain ⟨⟨bl, c0, c1, c2, c3, c4, c5, c6, c7, c8, c9, c10, c11, c12, c13, c14⟩, bf, bz⟩ := NM.out.box
  have ff := bf 11 (by decide)
  have bn : w5.heap.size ≠ X3.heap.size := by have := NM.out.box.2.2; omega
  clear ha hnx
  go_upto_region 9 with fail
  clear bl bf bz c0 c1 c2 c3 c4 c5 c6 c7 c8 c9 c10 c11 c12 c13 c14 ff bn
  have NM := NM2
  have OW := OW2
  have ZV := ZV2
  have n1 : NmP (xN w5.heap.size) w5.heap.size { q2 with supA := some ⟨X3.heap.size, 0, none⟩, supC := 1, sup := [atomR [100]] } w5 ((X3.alloc (.cells #[.int .u8 1, .string ⟨#[100]⟩, .int .u8 0, .int .i64 0, .string ⟨#[]⟩, .string ⟨#[]⟩, .slice none 0 0] 28)).setCell ⟨w5.heap.size, 11, none⟩ (.slice (some ⟨X3.heap.size, 0, none⟩) 1 1)) := NM.out.sup RR.out
  have OW := Lib.hid (OW.out.butR (ButR.refl w5.heap.size _ |>.set 11 (.slice (some ⟨X3.heap.size, 0, none⟩) 1 1)) (Nat.lt_succ_self w5.heap.size))
  obtain ⟨q3, hq3⟩ : ∃ q, q = { q2 with supA := some ⟨X3.heap.size, 0, none⟩, supC := 1, sup := [atomR [100]] } := ⟨_, rfl⟩
  rw [← hq3] at n1
  have AQ := Lib.hid (gs3 AQ.out hq3 rfl)
  have PV := Lib.hid (show q3.prov = List.replicate 32 zeroT ∧ q3.provA = some ⟨w5.heap.size + 1, 0, none⟩ ∧ q3.provC = 32 by rw [hq3]; exact PV.out)
  have ZV := Lib.hid (show w5.heap.size + 2 ≤ ((X3.alloc (.cells #[.int .u8 1, .string ⟨#[100]⟩, .int .u8 0, .int .i64 0, .string ⟨#[]⟩, .string ⟨#[]⟩, .slice none 0 0] 28)).setCell ⟨w5.heap.size, 11, none⟩ (.slice (some ⟨X3.heap.size, 0, none⟩) 1 1)).heap.size by have := ZV.out; simpa [World.setCell] using this)
  have NM := Lib.hid n1
  clear n1 hq3
  rw [← set_alloc X3 (.cells #[.int .u8 1, .string ⟨#[100]⟩, .int .u8 0, .int .i64 0, .string ⟨#[]⟩, .string ⟨#[]⟩, .slice none 0 0] 28) ⟨w5.heap.size, 11, none⟩ (.slice (some ⟨X3.heap.size, 0, none⟩) 1 1) BZ.out]
  obtain ⟨X4, hX4⟩ : ∃ V, V = (X3.alloc (.cells #[.int .u8 1, .string ⟨#[100]⟩, .int .u8 0, .int .i64 0, .string ⟨#[]⟩, .string ⟨#[]⟩, .slice none 0 0] 28)).setCell ⟨w5.heap.size, 11, none⟩ (.slice (some ⟨X3.heap.size, 0, none⟩) 1 1) := ⟨_, rfl⟩
  rw [← hX4] at NM OW ZV ⊢
  clear hX4
  have ha := (Below.refl X4.heap.size X4).alloc (Nat.le_refl _) (.cells #[.string ⟨#[47, 97]⟩, .string ⟨#[47, 98]⟩] 9)
  have hnx : ¬ xN w5.heap.size X4.heap.size := fun hx => by have := ZV.out; rcases hx with h | h <;> omega
  have BZ := Lib.hid NM.out.box.2.2
  have RR := Lib.hid (RdS.lit (X := xN w5.heap.size) (enc := encT1) (size := 1) (l := [⟨#[47, 97]⟩, ⟨#[47, 98]⟩]) (cs := #[.string ⟨#[47, 97]⟩, .string ⟨#[47, 98]⟩]) (e := 9) (n := 2) encT1_len rfl rfl (by decide) hnx)
  have NM2 := Lib.hid (NM.out.then ha)
  have OW2 := Lib.hid (OW.out.below ha (Nat.le_refl _))
  have ZV2 := Lib.hid (Nat.le_trans ZV.out ha.size)
  obtain ⟨⟨bl, c0, c1, c2, c3, c4, c5, c6, c7, c8, c9, c10, c11, c12, c13, c14⟩, bf, bz⟩ := NM.out.box
  have ff := bf 14 (by decide)
  have bn : w5.heap.size ≠ X4.heap.size := by have := NM.out.box.2.2; omega
  clear ha hnx
  go_upto_region 10 with fail
  clear bl bf bz c0 c1 c2 c3 c4 c5 c6 c7 c8 c9 c10 c11 c12 c13 c14 ff bn
  have NM := NM2
  have OW := OW2
  have ZV := ZV2
  have n1 : NmP (xN w5.heap.size) w5.heap.size { q3 with filesA := some ⟨X4.heap.size, 0, none⟩, filesC := 2, files := [⟨#[47, 97]⟩, ⟨#[47, 98]⟩] } w5 ((X4.alloc (.cells #[.string ⟨#[47, 97]⟩, .string ⟨#[47, 98]⟩] 9)).setCell ⟨w5.heap.size, 14, none⟩ (.slice (some ⟨X4.heap.size, 0, none⟩) 2 2)) := NM.out.files RR.out (fun s hs => by simp only [List.mem_cons, List.not_mem_nil, or_false] at hs; rcases hs with rfl | rfl <;> decide)
  have OW := Lib.hid (OW.out.butR (ButR.refl w5.heap.size _ |>.set 14 (.slice (some ⟨X4.heap.size, 0, none⟩) 2 2)) (Nat.lt_succ_self w5.heap.size))
  obtain ⟨q4, hq4⟩ : ∃ q, q = { q3 with filesA := some ⟨X4.heap.size, 0, none⟩, filesC := 2, files := [⟨#[47, 97]⟩, ⟨#[47, 98]⟩] } := ⟨_, rfl⟩
  rw [← hq4] at n1
  have AQ := Lib.hid (gs4 AQ.out hq4 rfl)
  have PV := Lib.hid (show q4.prov = List.replicate 32 zeroT ∧ q4.provA = some ⟨w5.heap.size + 1, 0, none⟩ ∧ q4.provC = 32 by rw [hq4]; exact PV.out)
  have ZV := Lib.hid (show w5.heap.size + 2 ≤ ((X4.alloc (.cells #[.string ⟨#[47, 97]⟩, .string ⟨#[47, 98]⟩] 9)).setCell ⟨w5.heap.size, 14, none⟩ (.slice (some ⟨X4.heap.size, 0, none⟩) 2 2)).heap.size by have := ZV.out; simpa [World.setCell] using this)
  have NM := Lib.hid n1
  clear n1 hq4
  rw [← set_alloc X4 (.cells #[.string ⟨#[47, 97]⟩, .string ⟨#[47, 98]⟩] 9) ⟨w5.heap.size, 14, none⟩ (.slice (some ⟨X4.heap.size, 0, none⟩) 2 2) BZ.out]
  obtain ⟨X5, hX5⟩ : ∃ V, V = (X4.alloc (.cells #[.string ⟨#[47, 97]⟩, .string ⟨#[47, 98]⟩] 9)).setCell ⟨w5.heap.size, 14, none⟩ (.slice (some ⟨X4.heap.size, 0, none⟩) 2 2) := ⟨_, rfl⟩
  rw [← hX5] at NM OW ZV ⊢
  clear hX5
  obtain ⟨⟨bl, c0, c1, c2, c3, c4, c5, c6, c7, c8, c9, c10, c11, c12, c13, c14⟩, bf, bz⟩ := NM.out.box
  have ff := bf 5 (by decide)
  go_upto_region 12 with fail
  clear bl bf bz c0 c1 c2 c3 c4 c5 c6 c7 c8 c9 c10 c11 c12 c13 c14 ff
  have n1 : NmP (xN w5.heap.size) w5.heap.size { q4 with vendor := ⟨#[83, 111, 109, 101, 32, 86, 101, 110, 100, 111, 114, 44, 32, 73, 110, 99, 46]⟩ } w5 (X5.setCell ⟨w5.heap.size, 5, none⟩ (.string ⟨#[83, 111, 109, 101, 32, 86, 101, 110, 100, 111, 114, 44, 32, 73, 110, 99, 46]⟩)) := NM.out.vendor ⟨#[83, 111, 109, 101, 32, 86, 101, 110, 100, 111, 114, 44, 32, 73, 110, 99, 46]⟩ (by decide)
  have OW := Lib.hid (OW.out.butR (ButR.refl w5.heap.size _ |>.set 5 (.string ⟨#[83, 111, 109, 101, 32, 86, 101, 110, 100, 111, 114, 44, 32, 73, 110, 99, 46]⟩)) (Nat.lt_succ_self w5.heap.size))
  obtain ⟨q5, hq5⟩ : ∃ q, q = { q4 with vendor := ⟨#[83, 111, 109, 101, 32, 86, 101, 110, 100, 111, 114, 44, 32, 73, 110, 99, 46]⟩ } := ⟨_, rfl⟩
  rw [← hq5] at n1
  have AQ := Lib.hid (gs5 AQ.out hq5)
  have PV := Lib.hid (show q5.prov = List.replicate 32 zeroT ∧ q5.provA = some ⟨w5.heap.size + 1, 0, none⟩ ∧ q5.provC = 32 by rw [hq5]; exact PV.out)
  have ZV := Lib.hid (show w5.heap.size + 2 ≤ (X5.setCell ⟨w5.heap.size, 5, none⟩ (.string ⟨#[83, 111, 109, 101, 32, 86, 101, 110, 100, 111, 114, 44, 32, 73, 110, 99, 46]⟩)).heap.size by have := ZV.out; simpa [World.setCell] using this)
  have NM := Lib.hid n1
  clear n1 hq5
  obtain ⟨X6, hX6⟩ : ∃ V, V = X5.setCell ⟨w5.heap.size, 5, none⟩ (.string ⟨#[83, 111, 109, 101, 32, 86, 101, 110, 100, 111, 114, 44, 32, 73, 110, 99, 46]⟩) := ⟨_, rfl⟩
  rw [← hX6] at NM OW ZV ⊢
  clear hX6
  have HLR := Lib.hid (show ∀ (q : Pk), q.prov = List.replicate 32 zeroT → q.prov.length = 32 from fun q h => by rw [h]; rfl)
  go_loopw [5] (fun iv wr => ∃ i : Nat, i ≤ 32 ∧ iv = .int .i64 (i : Int) ∧ NmP (xN w5.heap.size) w5.heap.size q5 w5 wr ∧ Own encD 5 (w5.heap.size + 1) 25 (.slice (some ⟨w5.heap.size + 1, 0, none⟩) 32 32) (List.replicate i xD ++ List.replicate (32 - i) zeroT) wr) (fun iv _ => 32 - (intOf iv).toNat)
  case atStart => exact ⟨0, by omega, rfl, NM.out, OW.out⟩
  case round =>
    obtain ⟨i, hi, rfl, hN, hO⟩ := hrel
    rename World => wr
    have NI := Lib.hid hN
    have OI := Lib.hid hO
    clear hN hO
    by_cases hlt : i < 32
    · have hli : i < (List.replicate i xD ++ List.replicate (32 - i) zeroT).length := by simp; omega
      obtain ⟨b9, o9, e9, hb9, d0, d1, d2, d3, d4⟩ := (own_rdA OI.out encD_len).dep_at hli
      cases e9
      simp only [Nat.zero_add] at d0 d1 d2 d3 d4
      have ff := own_frozen OI.out
      have z0 := ff (i * 5)
      have z1 := ff (i * 5 + 1)
      have z2 := ff (i * 5 + 2)
      have z3 := ff (i * 5 + 3)
      have z4 := ff (i * 5 + 4)
      have OS := own_set OI.out encD_len hli xD
      rw [rep_set i hlt] at OS
      have OS := Lib.hid OS
      have NS := Lib.hid (NI.out.turn (g := w5.heap.size + 1) (.inr rfl) (by omega) (by omega) (encD xD) (i * 5))
      generalize (List.replicate i xD ++ List.replicate (32 - i) zeroT)[i] = yy at *
      obtain ⟨⟨bl, c0, c1, c2, c3, c4, c5, c6, c7, c8, c9, c10, c11, c12, c13, c14⟩, bf, bz⟩ := NI.out.box
      rw [PV.out.2.1, PV.out.2.2, HLR.out q5 PV.out.1] at c6
      have i0 : (0 : Int) ≤ (i : Int) := by omega
      have i1 : (i : Int) < 32 := by omega
      clear ff hli hb9 c0 c1 c2 c3 c4 c5 c7 c8 c9 c10 c11 c12 c13 c14 bf bz
      unfold encD setL setL setL setL setL setL at OS NS
      go_wp2_with fail
      go_roundw
      case rel => exact ⟨i + 1, by omega, by go_num, NS.out, OS.out⟩
      case measure => simp [intOf]; omega
    · obtain rfl : i = 32 := by omega
      have i1 : ¬ (32 : Int) < 32 := by omega
      clear hlt NM OW
      as_aux_lemma =>
        have OE := Lib.hid (show Own encD 5 (w5.heap.size + 1) 25 (.slice (some ⟨w5.heap.size + 1, 0, none⟩) 32 32) (List.replicate 32 xD) wr from by have := OI.out; simpa using this)
        obtain ⟨q6, hq6⟩ : ∃ q, q = { q5 with prov := List.replicate 32 xD } := ⟨_, rfl⟩
        have NG := Lib.hid (show NmP (xN w5.heap.size) w5.heap.size q6 w5 wr by rw [hq6]; exact NmP.len (q := q5) (A := q5.provA) (c := q5.provC) (l := q5.prov) (l' := List.replicate 32 xD) NI.out (by rw [HLR.out q5 PV.out.1]; rfl))
        have AG := Lib.hid (gsz AQ.out hq6 rfl)
        have PG := Lib.hid (show q6.prov = List.replicate 32 xD ∧ q6.provA = some ⟨w5.heap.size + 1, 0, none⟩ ∧ q6.provC = 32 by rw [hq6]; exact ⟨rfl, PV.out.2⟩)
        have LG := Lib.hid (show q6.Laid wr.heap.size wr from NG.out.all (by rw [PG.out.1, PG.out.2.1, PG.out.2.2]; exact own_rdA OE.out encD_len) (fun d hd => by rw [PG.out.1] at hd; rw [(List.mem_replicate.1 hd).2]; exact xD_wf))
        have BG := Lib.hid (B7.out.trans (NG.out.old.mono B7.out.size))
        have MG := Lib.hid (show Calls Tryd.prog 6 #[q6.val] wr fun e w' => e = .returned (.bool true) ∧ Below wr.heap.size wr w' from (AG.out.may.trans gz_may) ▸ pkmaya_any q6 wr (HI.out.below BG.out) LG.out (AG.out.deep gz_deep))
        have M1 := Lib.hid (fun W (h : Below w.heap.size w W) => (show Calls Tryd.prog 6 #[P1.val] W fun e w' => e = .returned (.bool true) ∧ Below W.heap.size W w' from p1_may ▸ pkmaya_any P1 W (HI.out.below h) (p1_laid W) p1_deep))
        have TF := Lib.hid (TSF.out wr NG.out.old).rtree
        have TU := Lib.hid (TSU.out wr NG.out.old).rtree
        have FX := Lib.hid (FBP.out wr NG.out.old)
        have UX := Lib.hid (UBP.out wr NG.out.old)
        have PA6 := Lib.hid NG.out.at_
        clear hq6 OI NI OE AQ PV HLR ZV TSF TSU FBP UBP
        rw [one_val] at M1
        unfold Pk.val at MG
        obtain ⟨_, c0, c1, c2, c3, c4, c5, c6, c7, c8, c9, c10, c11, c12, c13, c14⟩ := PA6.out
        go_wp2_with fail
        go_at_call 6
        refine MG.out.mono ?_
        rintro e wa ⟨rfl, h⟩
        have hh := h
        have BG := Lib.hid (BG.out.trans (h.mono BG.out.size))
        have LG := Lib.hid ((LG.out.below h).more h.size)
        have TF := Lib.hid ((TF.out.keeps h).more h.size)
        have TU := Lib.hid ((TU.out.keeps h).more h.size)
        have FX := Lib.hid (FX.out.then h)
        have UX := Lib.hid (UX.out.then h)
        have PA6 := Lib.hid (PA6.out.calls h)
        clear h hh MG NG c0 c1 c2 c3 c4 c5 c6 c7 c8 c9 c10 c11 c12 c13 c14
        generalize (Value.agg #[.string q6.name, .int .i64 q6.epoch, .string q6.ver, .string q6.rel, .int .u8 q6.arch, .string q6.vendor, .slice q6.provA q6.prov.length q6.provC, .slice q6.reqA q6.req.length q6.reqC, .slice q6.conA q6.con.length q6.conC, .slice q6.obsA q6.obs.length q6.obsC, .slice q6.rcmA q6.rcm.length q6.rcmC, .slice q6.supA q6.sup.length q6.supC, .slice q6.sugA q6.sug.length q6.sugC, .slice q6.enhA q6.enh.length q6.enhC, .slice q6.filesA q6.files.length q6.filesC]) = gv8
        go_wp2_with fail
        go_at_call 5
        refine (one10_any _).mono ?_
        rintro e wb ⟨rfl, h⟩
        have BG := Lib.hid (BG.out.trans (h.mono BG.out.size))
        have LG := Lib.hid ((LG.out.below h).more h.size)
        have TF := Lib.hid ((TF.out.keeps h).more h.size)
        have TU := Lib.hid ((TU.out.keeps h).more h.size)
        have FX := Lib.hid (FX.out.then h)
        have UX := Lib.hid (UX.out.then h)
        have PA6 := Lib.hid (PA6.out.calls h)
        clear h
        go_wp2_with fail
        go_at_call 6
        refine (M1.out _ BG.out).mono ?_
        rintro e wc ⟨rfl, h⟩
        have BG := Lib.hid (BG.out.trans (h.mono BG.out.size))
        have LG := Lib.hid ((LG.out.below h).more h.size)
        have TF := Lib.hid ((TF.out.keeps h).more h.size)
        have TU := Lib.hid ((TU.out.keeps h).more h.size)
        have FX := Lib.hid (FX.out.then h)
        have UX := Lib.hid (UX.out.then h)
        have PA6 := Lib.hid (PA6.out.calls h)
        clear h M1
        generalize (Value.agg #[.string ⟨#[97]⟩, .int .i64 0, .string ⟨#[49]⟩, .string ⟨#[49]⟩, .int .u8 1, .string ⟨#[]⟩, .slice none 0 0, .slice none 0 0, .slice none 0 0, .slice none 0 0, .slice none 0 0, .slice none 0 0, .slice none 0 0, .slice none 0 0, .slice none 0 0]) = gv9
        go_upto_region 18 with fail
        as_aux_lemma =>
          have MAYB := Lib.hid (fun (i : Nat) (hi : i < 19) (x : Pk) W (ha : Alike (GB i) x) (h : Below w.heap.size w W) (hl : x.Laid W.heap.size W) => (show Calls Tryd.prog 6 #[x.val] W fun e w' => e = .returned (.bool false) ∧ Below W.heap.size W w' from (ha.may.trans (gb_no i hi)) ▸ pkmaya_any x W (HI.out.below h) hl (ha.deep (gb_deep i hi))))
          have MAYE := Lib.hid (fun (i : Nat) (hi : earlyB (GB i) = false) (x : Pk) W (ha : Alike (GB i) x) (h : Below w.heap.size w W) (hl : x.early W.heap.size W) => (show Calls Tryd.prog 6 #[x.val] W fun e w' => e = .returned (.bool false) ∧ Below W.heap.size W w' from pkmaye_any x W (HI.out.below h) hl ((early_alike ha).trans hi)))
          have CPY := Lib.hid (fun W (h : Below wc.heap.size wc W) => refcopy_any q6 W ((LG.out.below h).more h.size) (few_alike AG.out gz_few))
          unfold Pk.val at CPY
          go_loopw [6] (fun iv wx => ∃ i : Nat, i ≤ 19 ∧ iv = .int .i64 (i : Int) ∧ Below wc.heap.size wc wx) (fun iv _ => 19 - (intOf iv).toNat)
          case atStart => exact ⟨0, by omega, rfl, Below.refl _ _⟩
          case round =>
            obtain ⟨i, hi, rfl, hB⟩ := hrel
            rename World => wx
            have BX := Lib.hid hB
            by_cases hlt : i < 19
            · obtain ⟨_, c0, c1, c2, c3, c4, c5, c6, c7, c8, c9, c10, c11, c12, c13, c14⟩ := PA6.out.calls hB
              have i0 : (0 : Int) ≤ (i : Int) := by omega
              have i1 : (i : Int) < 19 := by omega
              clear hB
              go_wp2_with fail
              go_at_call 7
              refine (CPY.out _ BX.out).mono ?_
              rintro e wy ⟨q, rfl, hq, oq, h⟩
              have BY := Lib.hid (BX.out.trans (h.mono BX.out.size))
              have BYW := Lib.hid (BG.out.trans (BY.out.mono BG.out.size))
              have AQ := Lib.hid (AG.out.trans2 hq)
              have QL := Lib.hid (oq.laid hq LG.out)
              have WF := Lib.hid (show ∀ d ∈ q.prov, d.wf from fun d hd => by rw [AQ.out.prov] at hd; rw [(List.mem_replicate.1 hd).2]; exact xD_wf)
              have OQ := Lib.hid oq
              have WXS := Lib.hid BX.out.size
              clear h hq oq BX c0 c1 c2 c3 c4 c5 c6 c7 c8 c9 c10 c11 c12 c13 c14
              generalize (Value.agg #[.string q6.name, .int .i64 q6.epoch, .string q6.ver, .string q6.rel, .int .u8 q6.arch, .string q6.vendor, .slice q6.provA q6.prov.length q6.provC, .slice q6.reqA q6.req.length q6.reqC, .slice q6.conA q6.con.length q6.conC, .slice q6.obsA q6.obs.length q6.obsC, .slice q6.rcmA q6.rcm.length q6.rcmC, .slice q6.supA q6.sup.length q6.supC, .slice q6.sugA q6.sug.length q6.sugC, .slice q6.enhA q6.enh.length q6.enhC, .slice q6.filesA q6.files.length q6.filesC]) = gva
              go_upto_region 21 with fail
              obtain ⟨V, hV⟩ : ∃ V, V = wy.alloc (.cells #[.string q.name, .int .i64 q.epoch, .string q.ver, .string q.rel, .int .u8 q.arch, .string q.vendor, .slice q.provA q.prov.length q.provC, .slice q.reqA q.req.length q.reqC, .slice q.conA q.con.length q.conC, .slice q.obsA q.obs.length q.obsC, .slice q.rcmA q.rcm.length q.rcmC, .slice q.supA q.sup.length q.supC, .slice q.sugA q.sug.length q.sugC, .slice q.enhA q.enh.length q.enhC, .slice q.filesA q.files.length q.filesC] 33) := ⟨_, rfl⟩
              obtain ⟨n0, r0⟩ := nm_box QL.out hV
              have NP := Lib.hid n0
              have RP := Lib.hid r0
              rw [← hV]
              clear hV n0 r0
              generalize (Value.agg #[.string q.name, .int .i64 q.epoch, .string q.ver, .string q.rel, .int .u8 q.arch, .string q.vendor, .slice q.provA q.prov.length q.provC, .slice q.reqA q.req.length q.reqC, .slice q.conA q.con.length q.conC, .slice q.obsA q.obs.length q.obsC, .slice q.rcmA q.rcm.length q.rcmC, .slice q.supA q.sup.length q.supC, .slice q.sugA q.sug.length q.sugC, .slice q.enhA q.enh.length q.enhC, .slice q.filesA q.files.length q.filesC]) = gvb
              obtain rfl | rfl | rfl | rfl | rfl | rfl | rfl | rfl | rfl | rfl | rfl | rfl | rfl | rfl | rfl | rfl | rfl | rfl | rfl : i = 0 ∨ i = 1 ∨ i = 2 ∨ i = 3 ∨ i = 4 ∨ i = 5 ∨ i = 6 ∨ i = 7 ∨ i = 8 ∨ i = 9 ∨ i = 10 ∨ i = 11 ∨ i = 12 ∨ i = 13 ∨ i = 14 ∨ i = 15 ∨ i = 16 ∨ i = 17 ∨ i = 18 := by omega
              · as_aux_lemma =>
                  obtain ⟨⟨bl, c0, c1, c2, c3, c4, c5, c6, c7, c8, c9, c10, c11, c12, c13, c14⟩, bf, bz⟩ := NP.out.box
                  have ff := bf 0 (by decide)
                  go_upto_region 63 with fail
                  clear bl bf bz ff c0 c1 c2 c3 c4 c5 c6 c7 c8 c9 c10 c11 c12 c13 c14
                  have n1 : NmP (· = wy.heap.size) wy.heap.size { q with name := ⟨#[]⟩ } wy (V.setCell ⟨wy.heap.size, 0, none⟩ (.string ⟨#[]⟩)) := NP.out.name ⟨#[]⟩ (by decide)
                  obtain ⟨r, hr⟩ : ∃ r, r = { q with name := ⟨#[]⟩ } := ⟨_, rfl⟩
                  rw [← hr] at n1
                  have ar : Alike (GB 0) r := by rw [hr]; exact { AQ.out with name := rfl }
                  have lr := n1.full (by rw [hr]; exact RP.out.keep (Kept.set (X := fun x => x = wy.heap.size) (cb := wy.heap.size) rfl _ _)) (by rw [hr]; exact WF.out)
                  have SQ := Lib.hid (MAYB.out 0 (by omega) r _ ar (BYW.out.trans (n1.old.mono BYW.out.size)) lr)
                  have NR := Lib.hid n1
                  clear n1 hr ar lr
                  generalize V.setCell ⟨wy.heap.size, 0, none⟩ (.string ⟨#[]⟩) = Z at *
                  unfold Pk.val at SQ
                  obtain ⟨⟨_, e0, e1, e2, e3, e4, e5, e6, e7, e8, e9, e10, e11, e12, e13, e14⟩, _, _⟩ := NR.out.box
                  go_wp2_with fail
                  go_at_call 6
                  refine SQ.out.mono ?_
                  rintro e wz ⟨rfl, h⟩
                  have BZ := Lib.hid (BY.out.trans ((NR.out.old.trans (h.mono NR.out.old.size)).mono BY.out.size))
                  clear h NR SQ e0 e1 e2 e3 e4 e5 e6 e7 e8 e9 e10 e11 e12 e13 e14
                  go_wp2_with fail
                  go_roundw
                  case rel => exact ⟨1, by omega, by go_num, BZ.out⟩
                  case measure => simp [intOf]
              · as_aux_lemma =>
                  obtain ⟨⟨bl, c0, c1, c2, c3, c4, c5, c6, c7, c8, c9, c10, c11, c12, c13, c14⟩, bf, bz⟩ := NP.out.box
                  have ff := bf 0 (by decide)
                  go_upto_region 63 with fail
                  clear bl bf bz ff c0 c1 c2 c3 c4 c5 c6 c7 c8 c9 c10 c11 c12 c13 c14
                  have n1 : NmP (· = wy.heap.size) wy.heap.size { q with name := ⟨#[47, 97]⟩ } wy (V.setCell ⟨wy.heap.size, 0, none⟩ (.string ⟨#[47, 97]⟩)) := NP.out.name ⟨#[47, 97]⟩ (by decide)
                  obtain ⟨r, hr⟩ : ∃ r, r = { q with name := ⟨#[47, 97]⟩ } := ⟨_, rfl⟩
                  rw [← hr] at n1
                  have ar : Alike (GB 1) r := by rw [hr]; exact { AQ.out with name := rfl }
                  have lr := n1.full (by rw [hr]; exact RP.out.keep (Kept.set (X := fun x => x = wy.heap.size) (cb := wy.heap.size) rfl _ _)) (by rw [hr]; exact WF.out)
                  have SQ := Lib.hid (MAYB.out 1 (by omega) r _ ar (BYW.out.trans (n1.old.mono BYW.out.size)) lr)
                  have NR := Lib.hid n1
                  clear n1 hr ar lr
                  generalize V.setCell ⟨wy.heap.size, 0, none⟩ (.string ⟨#[47, 97]⟩) = Z at *
                  unfold Pk.val at SQ
                  obtain ⟨⟨_, e0, e1, e2, e3, e4, e5, e6, e7, e8, e9, e10, e11, e12, e13, e14⟩, _, _⟩ := NR.out.box
                  go_wp2_with fail
                  go_at_call 6
                  refine SQ.out.mono ?_
                  rintro e wz ⟨rfl, h⟩
                  have BZ := Lib.hid (BY.out.trans ((NR.out.old.trans (h.mono NR.out.old.size)).mono BY.out.size))
                  clear h NR SQ e0 e1 e2 e3 e4 e5 e6 e7 e8 e9 e10 e11 e12 e13 e14
                  go_wp2_with fail
                  go_roundw
                  case rel => exact ⟨2, by omega, by go_num, BZ.out⟩
                  case measure => simp [intOf]
              · as_aux_lemma =>
                  obtain ⟨⟨bl, c0, c1, c2, c3, c4, c5, c6, c7, c8, c9, c10, c11, c12, c13, c14⟩, bf, bz⟩ := NP.out.box
                  have ff := bf 0 (by decide)
                  go_upto_region 63 with fail
                  clear bl bf bz ff c0 c1 c2 c3 c4 c5 c6 c7 c8 c9 c10 c11 c12 c13 c14
                  have n1 : NmP (· = wy.heap.size) wy.heap.size { q with name := ⟨#[105, 102]⟩ } wy (V.setCell ⟨wy.heap.size, 0, none⟩ (.string ⟨#[105, 102]⟩)) := NP.out.name ⟨#[105, 102]⟩ (by decide)
                  obtain ⟨r, hr⟩ : ∃ r, r = { q with name := ⟨#[105, 102]⟩ } := ⟨_, rfl⟩
                  rw [← hr] at n1
                  have ar : Alike (GB 2) r := by rw [hr]; exact { AQ.out with name := rfl }
                  have lr := n1.full (by rw [hr]; exact RP.out.keep (Kept.set (X := fun x => x = wy.heap.size) (cb := wy.heap.size) rfl _ _)) (by rw [hr]; exact WF.out)
                  have SQ := Lib.hid (MAYB.out 2 (by omega) r _ ar (BYW.out.trans (n1.old.mono BYW.out.size)) lr)
                  have NR := Lib.hid n1
                  clear n1 hr ar lr
                  generalize V.setCell ⟨wy.heap.size, 0, none⟩ (.string ⟨#[105, 102]⟩) = Z at *
                  unfold Pk.val at SQ
                  obtain ⟨⟨_, e0, e1, e2, e3, e4, e5, e6, e7, e8, e9, e10, e11, e12, e13, e14⟩, _, _⟩ := NR.out.box
                  go_wp2_with fail
                  go_at_call 6
                  refine SQ.out.mono ?_
                  rintro e wz ⟨rfl, h⟩
                  have BZ := Lib.hid (BY.out.trans ((NR.out.old.trans (h.mono NR.out.old.size)).mono BY.out.size))
                  clear h NR SQ e0 e1 e2 e3 e4 e5 e6 e7 e8 e9 e10 e11 e12 e13 e14
                  go_wp2_with fail
                  go_roundw
                  case rel => exact ⟨3, by omega, by go_num, BZ.out⟩
                  case measure => simp [intOf]
              · as_aux_lemma =>
                  obtain ⟨⟨bl, c0, c1, c2, c3, c4, c5, c6, c7, c8, c9, c10, c11, c12, c13, c14⟩, bf, bz⟩ := NP.out.box
                  have ff := bf 3 (by decide)
                  go_upto_region 63 with fail
                  clear bl bf bz ff c0 c1 c2 c3 c4 c5 c6 c7 c8 c9 c10 c11 c12 c13 c14
                  have n1 : NmP (· = wy.heap.size) wy.heap.size { q with rel := ⟨#[]⟩ } wy (V.setCell ⟨wy.heap.size, 3, none⟩ (.string ⟨#[]⟩)) := NP.out.rel ⟨#[]⟩ (by decide)
                  obtain ⟨r, hr⟩ : ∃ r, r = { q with rel := ⟨#[]⟩ } := ⟨_, rfl⟩
                  rw [← hr] at n1
                  have ar : Alike (GB 3) r := by rw [hr]; exact { AQ.out with rel := rfl }
                  have lr := n1.full (by rw [hr]; exact RP.out.keep (Kept.set (X := fun x => x = wy.heap.size) (cb := wy.heap.size) rfl _ _)) (by rw [hr]; exact WF.out)
                  have SQ := Lib.hid (MAYB.out 3 (by omega) r _ ar (BYW.out.trans (n1.old.mono BYW.out.size)) lr)
                  have NR := Lib.hid n1
                  clear n1 hr ar lr
                  generalize V.setCell ⟨wy.heap.size, 3, none⟩ (.string ⟨#[]⟩) = Z at *
                  unfold Pk.val at SQ
                  obtain ⟨⟨_, e0, e1, e2, e3, e4, e5, e6, e7, e8, e9, e10, e11, e12, e13, e14⟩, _, _⟩ := NR.out.box
                  go_wp2_with fail
                  go_at_call 6
                  refine SQ.out.mono ?_
                  rintro e wz ⟨rfl, h⟩
                  have BZ := Lib.hid (BY.out.trans ((NR.out.old.trans (h.mono NR.out.old.size)).mono BY.out.size))
                  clear h NR SQ e0 e1 e2 e3 e4 e5 e6 e7 e8 e9 e10 e11 e12 e13 e14
                  go_wp2_with fail
                  go_roundw
                  case rel => exact ⟨4, by omega, by go_num, BZ.out⟩
                  case measure => simp [intOf]
              · as_aux_lemma =>
                  obtain ⟨⟨bl, c0, c1, c2, c3, c4, c5, c6, c7, c8, c9, c10, c11, c12, c13, c14⟩, bf, bz⟩ := NP.out.box
                  have ff := bf 1 (by decide)
                  go_upto_region 63 with fail
                  clear bl bf bz ff c0 c1 c2 c3 c4 c5 c6 c7 c8 c9 c10 c11 c12 c13 c14
                  have n1 : NmP (· = wy.heap.size) wy.heap.size { q with epoch := (-1) } wy (V.setCell ⟨wy.heap.size, 1, none⟩ (.int .i64 (-1))) := NP.out.epoch (-1) rfl
                  obtain ⟨r, hr⟩ : ∃ r, r = { q with epoch := (-1) } := ⟨_, rfl⟩
                  rw [← hr] at n1
                  have ar : Alike (GB 4) r := by rw [hr]; exact { AQ.out with epoch := rfl }
                  have lr := n1.full (by rw [hr]; exact RP.out.keep (Kept.set (X := fun x => x = wy.heap.size) (cb := wy.heap.size) rfl _ _)) (by rw [hr]; exact WF.out)
                  have SQ := Lib.hid (MAYB.out 4 (by omega) r _ ar (BYW.out.trans (n1.old.mono BYW.out.size)) lr)
                  have NR := Lib.hid n1
                  clear n1 hr ar lr
                  generalize V.setCell ⟨wy.heap.size, 1, none⟩ (.int .i64 (-1)) = Z at *
                  unfold Pk.val at SQ
                  obtain ⟨⟨_, e0, e1, e2, e3, e4, e5, e6, e7, e8, e9, e10, e11, e12, e13, e14⟩, _, _⟩ := NR.out.box
                  go_wp2_with fail
                  go_at_call 6
                  refine SQ.out.mono ?_
                  rintro e wz ⟨rfl, h⟩
                  have BZ := Lib.hid (BY.out.trans ((NR.out.old.trans (h.mono NR.out.old.size)).mono BY.out.size))
                  clear h NR SQ e0 e1 e2 e3 e4 e5 e6 e7 e8 e9 e10 e11 e12 e13 e14
                  go_wp2_with fail
                  go_roundw
                  case rel => exact ⟨5, by omega, by go_num, BZ.out⟩
                  case measure => simp [intOf]
              · as_aux_lemma =>
                  obtain ⟨⟨bl, c0, c1, c2, c3, c4, c5, c6, c7, c8, c9, c10, c11, c12, c13, c14⟩, bf, bz⟩ := NP.out.box
                  have ff := bf 4 (by decide)
                  go_upto_region 63 with fail
                  clear bl bf bz ff c0 c1 c2 c3 c4 c5 c6 c7 c8 c9 c10 c11 c12 c13 c14
                  have n1 : NmP (· = wy.heap.size) wy.heap.size { q with arch := 0 } wy (V.setCell ⟨wy.heap.size, 4, none⟩ (.int .u8 0)) := NP.out.arch 0 rfl
                  obtain ⟨r, hr⟩ : ∃ r, r = { q with arch := 0 } := ⟨_, rfl⟩
                  rw [← hr] at n1
                  have ar : Alike (GB 5) r := by rw [hr]; exact { AQ.out with arch := rfl }
                  have lr := n1.full (by rw [hr]; exact RP.out.keep (Kept.set (X := fun x => x = wy.heap.size) (cb := wy.heap.size) rfl _ _)) (by rw [hr]; exact WF.out)
                  have SQ := Lib.hid (MAYB.out 5 (by omega) r _ ar (BYW.out.trans (n1.old.mono BYW.out.size)) lr)
                  have NR := Lib.hid n1
                  clear n1 hr ar lr
                  generalize V.setCell ⟨wy.heap.size, 4, none⟩ (.int .u8 0) = Z at *
                  unfold Pk.val at SQ
                  obtain ⟨⟨_, e0, e1, e2, e3, e4, e5, e6, e7, e8, e9, e10, e11, e12, e13, e14⟩, _, _⟩ := NR.out.box
                  go_wp2_with fail
                  go_at_call 6
                  refine SQ.out.mono ?_
                  rintro e wz ⟨rfl, h⟩
                  have BZ := Lib.hid (BY.out.trans ((NR.out.old.trans (h.mono NR.out.old.size)).mono BY.out.size))
                  clear h NR SQ e0 e1 e2 e3 e4 e5 e6 e7 e8 e9 e10 e11 e12 e13 e14
                  go_wp2_with fail
                  go_roundw
                  case rel => exact ⟨6, by omega, by go_num, BZ.out⟩
                  case measure => simp [intOf]
              · as_aux_lemma =>
                  obtain ⟨⟨bl, c0, c1, c2, c3, c4, c5, c6, c7, c8, c9, c10, c11, c12, c13, c14⟩, bf, bz⟩ := NP.out.box
                  have ff := bf 4 (by decide)
                  go_upto_region 63 with fail
                  clear bl bf bz ff c0 c1 c2 c3 c4 c5 c6 c7 c8 c9 c10 c11 c12 c13 c14
                  have n1 : NmP (· = wy.heap.size) wy.heap.size { q with arch := 5 } wy (V.setCell ⟨wy.heap.size, 4, none⟩ (.int .u8 5)) := NP.out.arch 5 rfl
                  obtain ⟨r, hr⟩ : ∃ r, r = { q with arch := 5 } := ⟨_, rfl⟩
                  rw [← hr] at n1
                  have ar : Alike (GB 6) r := by rw [hr]; exact { AQ.out with arch := rfl }
                  have lr := n1.full (by rw [hr]; exact RP.out.keep (Kept.set (X := fun x => x = wy.heap.size) (cb := wy.heap.size) rfl _ _)) (by rw [hr]; exact WF.out)
                  have SQ := Lib.hid (MAYB.out 6 (by omega) r _ ar (BYW.out.trans (n1.old.mono BYW.out.size)) lr)
                  have NR := Lib.hid n1
                  clear n1 hr ar lr
                  generalize V.setCell ⟨wy.heap.size, 4, none⟩ (.int .u8 5) = Z at *
                  unfold Pk.val at SQ
                  obtain ⟨⟨_, e0, e1, e2, e3, e4, e5, e6, e7, e8, e9, e10, e11, e12, e13, e14⟩, _, _⟩ := NR.out.box
                  go_wp2_with fail
                  go_at_call 6
                  refine SQ.out.mono ?_
                  rintro e wz ⟨rfl, h⟩
                  have BZ := Lib.hid (BY.out.trans ((NR.out.old.trans (h.mono NR.out.old.size)).mono BY.out.size))
                  clear h NR SQ e0 e1 e2 e3 e4 e5 e6 e7 e8 e9 e10 e11 e12 e13 e14
                  go_wp2_with fail
                  go_roundw
                  case rel => exact ⟨7, by omega, by go_num, BZ.out⟩
                  case measure => simp [intOf]
              · as_aux_lemma =>
                  have ha := (Below.refl V.heap.size V).alloc (Nat.le_refl _) (.cells byte65 5)
                  have np2 := NP.out.then ha
                  have rp2 := RP.out.keep (Kept.of (X := (fun x => x = wy.heap.size)) ha)
                  have BZ0 := Lib.hid NP.out.box.2.2
                  have n1 : NmP (fun x => x = wy.heap.size) wy.heap.size { q with vendor := z65 } wy ((V.alloc (.cells byte65 5)).setCell ⟨wy.heap.size, 5, none⟩ (.string z65)) := np2.vendor z65 (by decide)
                  have rp3 := rp2.keep (Kept.set (X := (fun x => x = wy.heap.size)) (cb := wy.heap.size) rfl 5 (.string z65))
                  rw [set_alloc V (.cells byte65 5) ⟨wy.heap.size, 5, none⟩ (.string z65) BZ0.out] at n1 rp3
                  have ar : Alike (GB 7) { q with vendor := z65 } := { AQ.out with vendor := rfl }
                  have SQ := Lib.hid (MAYB.out 7 (by omega) { q with vendor := z65 } _ ar (BYW.out.trans (n1.old.mono BYW.out.size)) (n1.full rp3 WF.out))
                  have NO := Lib.hid n1.old
                  unfold Pk.val at SQ
                  dsimp only at SQ
                  obtain ⟨⟨bl, c0, c1, c2, c3, c4, c5, c6, c7, c8, c9, c10, c11, c12, c13, c14⟩, bf, bz⟩ := NP.out.box
                  have ff := bf 5 (by decide)
                  have bn : wy.heap.size ≠ V.heap.size := by omega
                  have mk := make65 V
                  have cv := conv65 V
                  clear ha n1 np2 rp2 rp3 ar bf NP RP QL OQ AQ MAYB MAYE CPY
                  go_wp2_with fail
                  go_at_call 6
                  refine SQ.out.mono ?_
                  rintro e wz ⟨rfl, h⟩
                  have BZ := Lib.hid (BY.out.trans ((NO.out.trans (h.mono NO.out.size)).mono BY.out.size))
                  clear h SQ NO bl bz ff bn mk cv c0 c1 c2 c3 c4 c5 c6 c7 c8 c9 c10 c11 c12 c13 c14
                  go_wp2_with fail
                  go_roundw
                  case rel => exact ⟨8, by omega, by go_num, BZ.out⟩
                  case measure => simp [intOf]
              · as_aux_lemma =>
                  have hE : q.prov = List.replicate 32 xD := AQ.out.prov
                  have e6 : q.prov.length = 32 := by rw [hE]; rfl
                  have ha0 : Below wy.heap.size wy V := NP.out.old
                  have ov := OQ.out.prov.below ha0 (Nat.le_refl _)
                  obtain ⟨g, hA, hg, _, y9, _⟩ := own_some ov (by rw [e6]; decide)
                  clear y9
                  rw [hA] at ov
                  have hgl : g < wy.heap.size := (World.ownsRow.lt (show World.ownsRow wy _ _ _ (.slice (some ⟨g, 0, none⟩) q.prov.length q.provC) _ _ from hA ▸ OQ.out.prov) g rfl).2
                  have ha := (Below.refl V.heap.size V).alloc (Nat.le_refl _) (.cells #[.string ⟨#[121]⟩, .int .u8 0, .int .i64 0, .string ⟨#[]⟩, .string ⟨#[]⟩] 25)
                  have ow := ov.below ha (Nat.le_refl _)
                  rw [e6, hE] at ow
                  have rr := (RdS.lit (X := fun _ => False) (enc := encD) (size := 5) (W := V) (l := [yD]) (cs := #[.string ⟨#[121]⟩, .int .u8 0, .int .i64 0, .string ⟨#[]⟩, .string ⟨#[]⟩]) (e := 25) (n := 1) encD_len rfl rfl (by decide) (fun h => h)).rd
                  have OWH := Lib.hid ow
                  have RRH := Lib.hid rr
                  have BXH := Lib.hid (NP.out.then ha).box
                  have BNH := Lib.hid (NP.out.then ha).old
                  have EL := Lib.hid NP.out.laid
                  have RM := Lib.hid (show wx.heap.size + 2 ≤ (V.alloc (.cells #[.string ⟨#[121]⟩, .int .u8 0, .int .i64 0, .string ⟨#[]⟩, .string ⟨#[]⟩] 25)).heap.size by have := ha0.size; have := ha.size; omega)
                  have GL := Lib.hid hgl
                  have GB9 := Lib.hid hg
                  have PBL := Lib.hid NP.out.box.2.2
                  obtain ⟨⟨bl, c0, c1, c2, c3, c4, c5, c6, c7, c8, c9, c10, c11, c12, c13, c14⟩, bf, bz⟩ := NP.out.box
                  rw [hA, e6] at c6
                  clear c0 c1 c2 c3 c4 c5 c7 c8 c9 c10 c11 c12 c13 c14 bf ha0 ov ha ow rr hgl hg hE e6 hA NP RP QL OQ MAYB CPY
                  go_upto_region 40 with fail
                  go_step
                  go_step
                  go_step
                  go_step
                  go_step
                  go_step
                  go_step
                  go_step
                  go_step
                  go_step
                  go_step
                  refine op_build1D _ _ _ _ _ _ rfl rfl ?_
                  simp only [put_someN, setIfInBounds_toArray, set_cons_zero, set_cons_succ]
                  have bnz : wy.heap.size ≠ V.heap.size := by omega
                  go_wp2_with (at_builtin; refine Hid.out ?_)
                  refine Lib.hid ?_
                  refine wpList_append_rd (P := Tryd.prog) _ rfl _ _ 30 rfl (wx.heap.size + 2) 25 _ _ 5 _ (by rfl) (by rfl) (by rfl) (by rfl) (by rfl) (by rfl) (by decide) encD_len encD_one _ _ _ rfl OWH.out _ (some ⟨V.heap.size, 0, none⟩) 1 [yD] 1 rfl rfl RRH.out (by simp) (by decide) RM.out ?_
                  intro v2 w9 ho hg2 hv
                  have o9 : Own encD 5 (wx.heap.size + 2) 25 v2 (List.replicate 32 xD ++ [yD]) w9 := by unfold Own; rw [List.length_append, List.flatMap_append]; exact ho
                  obtain ⟨A2, c2, rfl⟩ := own_shape o9
                  obtain ⟨g2, rfl, _, _, y9, _⟩ := own_some o9 (by simp)
                  clear y9
                  have bx := BXH.out.blk (hg2.block wy.heap.size BXH.out.2.2 (fun e => (Nat.ne_of_lt GL.out) (Option.some.inj e).symm))
                  have gne : g2 ≠ wy.heap.size := by rcases hv with h | h; exact fun e => by { have h3 : g2 = g := Option.some.inj h; have := GL.out; omega }; exact fun e => by { have h3 : g2 = (V.alloc (.cells #[.string ⟨#[121]⟩, .int .u8 0, .int .i64 0, .string ⟨#[]⟩, .string ⟨#[]⟩] 25)).heap.size := Option.some.inj h; have := PBL.out; simp at h3; omega }
                  have bc0 : Below wc.heap.size wc (V.alloc (.cells #[.string ⟨#[121]⟩, .int .u8 0, .int .i64 0, .string ⟨#[]⟩, .string ⟨#[]⟩] 25)) := BY.out.trans (BNH.out.mono BY.out.size)
                  have bc1 : Below wc.heap.size wc w9 := bc0.grown hg2 bc0.size (fun j e => by have e2 : g = j := Option.some.inj e; have := WXS.out; have := GB9.out; omega)
                  have bc := bc1.setCell (p := ⟨wy.heap.size, 6, none⟩) (by show wc.heap.size ≤ wy.heap.size; exact BY.out.size) (.slice (some ⟨g2, 0, none⟩) 33 c2)
                  have ar : Alike (GB 8) { q with provA := some ⟨g2, 0, none⟩, provC := c2, prov := (List.replicate 32 xD ++ [yD]) } := { AQ.out with prov := rfl }
                  have hrd : Rd encD 5 (w9.setCell ⟨wy.heap.size, 6, none⟩ (.slice (some ⟨g2, 0, none⟩) 33 c2)).heap.size (some ⟨g2, 0, none⟩) c2 (List.replicate 32 xD ++ [yD]) (w9.setCell ⟨wy.heap.size, 6, none⟩ (.slice (some ⟨g2, 0, none⟩) 33 c2)) := rd_setN (own_rdA o9 encD_len) gne
                  have SQ := Lib.hid (MAYE.out 8 gb_early8 { q with provA := some ⟨g2, 0, none⟩, provC := c2, prov := (List.replicate 32 xD ++ [yD]) } _ ar (BG.out.trans (bc.mono BG.out.size)) ⟨EL.out.ep, EL.out.n0, EL.out.n1, EL.out.n2, hrd, fun d hd => by rcases List.mem_append.1 hd with h | h; (rw [(List.mem_replicate.1 h).2]; exact xD_wf); (rw [List.mem_singleton.1 h]; exact yD_wf)⟩)
                  unfold Pk.val at SQ
                  dsimp only at SQ
                  have NB := Lib.hid (show Box15 wy.heap.size { q with provA := some ⟨g2, 0, none⟩, provC := c2, prov := (List.replicate 32 xD ++ [yD]) } (w9.setCell ⟨wy.heap.size, 6, none⟩ (.slice (some ⟨g2, 0, none⟩) 33 c2)) from bx.set_prov (some ⟨g2, 0, none⟩) c2 (List.replicate 32 xD ++ [yD]))
                  have BC := Lib.hid bc
                  obtain ⟨⟨_, c0, c1, c2x, c3, c4, c5, c6x, c7, c8, c9x, c10, c11, c12, c13, c14⟩, bf, _⟩ := bx
                  have ff := bf 6 (by decide)
                  clear ho hg2 hv o9 gne bc0 bc1 bc ar hrd bf AQ MAYE c6
                  go_upto_region 63 with fail
                  clear ff c0 c1 c2x c3 c4 c5 c6x c7 c8 c9x c10 c11 c12 c13 c14
                  generalize w9.setCell ⟨wy.heap.size, 6, none⟩ (.slice (some ⟨g2, 0, none⟩) 33 c2) = Z at *
                  obtain ⟨⟨_, e0, e1, e2, e3, e4, e5, e6, e7, e8, e9, e10, e11, e12, e13, e14⟩, _, _⟩ := NB.out
                  dsimp only at e0 e1 e2 e3 e4 e5 e6 e7 e8 e9 e10 e11 e12 e13 e14
                  go_wp2_with fail
                  go_at_call 6
                  refine SQ.out.mono ?_
                  rintro e wz ⟨rfl, h⟩
                  have BZ := Lib.hid (BC.out.trans (h.mono BC.out.size))
                  clear h SQ BC NB e0 e1 e2 e3 e4 e5 e6 e7 e8 e9 e10 e11 e12 e13 e14
                  go_wp2_with fail
                  go_roundw
                  case rel => exact ⟨9, by omega, by go_num, BZ.out⟩
                  case measure => simp [intOf]
              · as_aux_lemma =>
                  have hE : q.prov = List.replicate 32 xD := AQ.out.prov
                  have e6 : q.prov.length = 32 := by rw [hE]; rfl
                  have ha : Below wy.heap.size wy V := NP.out.old
                  have ov := OQ.out.prov.below ha (Nat.le_refl _)
                  obtain ⟨g, hA, hg, _, y9, _⟩ := own_some ov (by rw [e6]; decide)
                  clear y9
                  rw [hA] at ov
                  obtain ⟨d16, f16, hrd⟩ := nm_op ov hE
                  have hgl : g < wy.heap.size := (World.ownsRow.lt (show World.ownsRow wy _ _ _ (.slice (some ⟨g, 0, none⟩) q.prov.length q.provC) _ _ from hA ▸ OQ.out.prov) g rfl).2
                  have hne : wy.heap.size ≠ g := by omega
                  have bx := NP.out.box.butR ((ButR.refl g V).set 16 (.int .u8 5)) hne
                  have ar : Alike (GB 9) { q with prov := (List.replicate 32 xD).set 3 xB } := { AQ.out with prov := rfl }
                  have bw : Below w.heap.size w (V.setCell ⟨g, 16, none⟩ (.int .u8 5)) := (BYW.out.trans (ha.mono BYW.out.size)).setCell (p := ⟨g, 16, none⟩) (by show w.heap.size ≤ g; have := BG.out.size; have := WXS.out; omega) _
                  have bc : Below wc.heap.size wc (V.setCell ⟨g, 16, none⟩ (.int .u8 5)) := (BY.out.trans (ha.mono BY.out.size)).setCell (p := ⟨g, 16, none⟩) (by show wc.heap.size ≤ g; have := WXS.out; omega) _
                  have SQ := Lib.hid (MAYE.out 9 gb_early { q with prov := (List.replicate 32 xD).set 3 xB } _ ar bw ⟨NP.out.laid.ep, NP.out.laid.n0, NP.out.laid.n1, NP.out.laid.n2, by rw [hA]; exact hrd, fun d hd => by rcases List.mem_or_eq_of_mem_set hd with h | rfl; (rw [(List.mem_replicate.1 h).2]; exact xD_wf); exact xB_wf⟩)
                  unfold Pk.val at SQ
                  simp only [hA, List.length_set, List.length_replicate] at SQ
                  obtain ⟨⟨bl, c0, c1, c2, c3, c4, c5, c6, c7, c8, c9, c10, c11, c12, c13, c14⟩, bf, bz⟩ := NP.out.box
                  rw [hA, e6] at c6
                  obtain ⟨⟨_, e0, e1, e2, e3, e4, e5, ee6, e7, e8, e9, e10, e11, e12, e13, e14⟩, _, _⟩ := bx
                  rw [hA, e6] at ee6
                  have BC := Lib.hid bc
                  clear hE ha ov hrd bw bc ar bf bl bz NP RP QL OQ AQ MAYB MAYE CPY hg e6 hA
                  go_upto_region 63 with fail
                  clear d16 f16 c0 c1 c2 c3 c4 c5 c6 c7 c8 c9 c10 c11 c12 c13 c14
                  generalize V.setCell ⟨g, 16, none⟩ (.int .u8 5) = Z at *
                  go_wp2_with fail
                  go_at_call 6
                  refine SQ.out.mono ?_
                  rintro e wz ⟨rfl, h⟩
                  have BZ := Lib.hid (BC.out.trans (h.mono BC.out.size))
                  clear h SQ BC e0 e1 e2 e3 e4 e5 ee6 e7 e8 e9 e10 e11 e12 e13 e14
                  go_wp2_with fail
                  go_roundw
                  case rel => exact ⟨10, by omega, by go_num, BZ.out⟩
                  case measure => simp [intOf]
              · as_aux_lemma =>
                  have ha := (Below.refl V.heap.size V).alloc (Nat.le_refl _) (.cells #[.string ⟨#[]⟩, .int .u8 0, .int .i64 0, .string ⟨#[]⟩, .string ⟨#[]⟩] 25)
                  have hnx : ¬ (fun x => x = wy.heap.size) V.heap.size := fun hx => by have := NP.out.box.2.2; have hx2 : V.heap.size = wy.heap.size := hx; omega
                  have BV := Lib.hid (BY.out.trans (NP.out.old.mono BY.out.size))
                  have rr := (RdS.lit (X := (fun x => x = wy.heap.size)) (enc := encD) (size := 5) (l := [zeroT]) (cs := #[.string ⟨#[]⟩, .int .u8 0, .int .i64 0, .string ⟨#[]⟩, .string ⟨#[]⟩]) (e := 25) (n := 1) encD_len rfl rfl (by decide) hnx)
                  have np2 := NP.out.then ha
                  have rp2 := RP.out.keep (Kept.of (X := (fun x => x = wy.heap.size)) ha)
                  have BZ0 := Lib.hid NP.out.box.2.2
                  have n1 : NmP (fun x => x = wy.heap.size) wy.heap.size { q with obsA := some ⟨V.heap.size, 0, none⟩, obsC := 1, obs := [zeroT] } wy ((V.alloc (.cells #[.string ⟨#[]⟩, .int .u8 0, .int .i64 0, .string ⟨#[]⟩, .string ⟨#[]⟩] 25)).setCell ⟨wy.heap.size, 9, none⟩ (.slice (some ⟨V.heap.size, 0, none⟩) 1 1)) := np2.obs rr (fun d hd => by simp only [List.mem_cons, List.not_mem_nil, or_false] at hd; subst hd; exact ⟨by decide, rfl, rfl, by decide, by decide⟩)
                  have rp3 := rp2.keep (Kept.set (X := (fun x => x = wy.heap.size)) (cb := wy.heap.size) rfl 9 (.slice (some ⟨V.heap.size, 0, none⟩) 1 1))
                  rw [set_alloc V (.cells #[.string ⟨#[]⟩, .int .u8 0, .int .i64 0, .string ⟨#[]⟩, .string ⟨#[]⟩] 25) ⟨wy.heap.size, 9, none⟩ (.slice (some ⟨V.heap.size, 0, none⟩) 1 1) BZ0.out] at n1 rp3
                  have ar : Alike (GB 10) { q with obsA := some ⟨V.heap.size, 0, none⟩, obsC := 1, obs := [zeroT] } := { AQ.out with obs := rfl }
                  have SQ := Lib.hid (MAYB.out 10 (by omega) { q with obsA := some ⟨V.heap.size, 0, none⟩, obsC := 1, obs := [zeroT] } _ ar (BYW.out.trans (n1.old.mono BYW.out.size)) (n1.full rp3 WF.out))
                  have NO := Lib.hid n1.old
                  unfold Pk.val at SQ
                  dsimp only at SQ
                  obtain ⟨⟨bl, c0, c1, c2, c3, c4, c5, c6, c7, c8, c9, c10, c11, c12, c13, c14⟩, bf, bz⟩ := NP.out.box
                  have ff := bf 9 (by decide)
                  have bn : wy.heap.size ≠ V.heap.size := by omega
                  clear ha hnx n1 rr np2 rp2 rp3 ar bf NP RP QL OQ AQ MAYB MAYE CPY
                  go_upto_region 44 with fail
                  go_step
                  go_step
                  go_step
                  go_step
                  go_step
                  refine op_build1D _ _ _ _ _ _ rfl rfl ?_
                  simp only [put_someN, setIfInBounds_toArray, set_cons_zero, set_cons_succ]
                  go_wp2_with fail
                  go_at_call 6
                  refine SQ.out.mono ?_
                  rintro e wz ⟨rfl, h⟩
                  have BZ := Lib.hid (BY.out.trans ((NO.out.trans (h.mono NO.out.size)).mono BY.out.size))
                  clear h SQ NO bl bz ff bn c0 c1 c2 c3 c4 c5 c6 c7 c8 c9 c10 c11 c12 c13 c14
                  go_wp2_with fail
                  go_roundw
                  case rel => exact ⟨11, by omega, by go_num, BZ.out⟩
                  case measure => simp [intOf]
              · as_aux_lemma =>
                  obtain ⟨Z, hZ⟩ : ∃ Z, Z = (V.alloc (.cells rich33 28)).setCell ⟨wy.heap.size, 7, none⟩ (.slice (some ⟨V.heap.size, 0, none⟩) 33 33) := ⟨_, rfl⟩
                  obtain ⟨nr0, no0⟩ := nr_start QL.out NP.out hZ
                  have BZ0 := NP.out.box.2.2
                  rw [set_alloc V (.cells rich33 28) ⟨wy.heap.size, 7, none⟩ (.slice (some ⟨V.heap.size, 0, none⟩) 33 33) BZ0] at hZ
                  have NR := Lib.hid nr0
                  have OR := Lib.hid no0
                  obtain ⟨⟨bl, c0, c1, c2, c3, c4, c5, c6, c7, c8, c9, c10, c11, c12, c13, c14⟩, bf, bz⟩ := NP.out.box
                  have ff := bf 7 (by decide)
                  have bn : wy.heap.size ≠ V.heap.size := by omega
                  have mk := make33 V
                  have HZ := Lib.hid hZ
                  clear hZ nr0 no0 BZ0 bf NP RP QL OQ MAYE CPY
                  go_upto_region 48 with fail
                  rw [← HZ.out]
                  clear mk ff bn bl bz HZ c0 c1 c2 c3 c4 c5 c6 c7 c8 c9 c10 c11 c12 c13 c14
                  generalize V.heap.size = g at *
                  go_loopw [8] (fun kv wr => ∃ k : Nat, k ≤ 33 ∧ kv = .int .i64 (k : Int) ∧ NmR wy.heap.size g q wy wr ∧ Own encR 7 g 28 (.slice (some ⟨g, 0, none⟩) 33 33) (List.replicate k aR ++ List.replicate (33 - k) zeroRV) wr) (fun kv _ => 33 - (intOf kv).toNat)
                  case atStart => exact ⟨0, by omega, rfl, NR.out, OR.out⟩
                  case round =>
                    obtain ⟨k, hk, rfl, hN, hO⟩ := hrel
                    rename World => wr
                    have NI := Lib.hid hN
                    have OI := Lib.hid hO
                    clear hN hO NR OR
                    by_cases hlt : k < 33
                    · have HLI := Lib.hid (show k < (List.replicate k aR ++ List.replicate (33 - k) zeroRV).length by simp; omega)
                      have k0 : (0 : Int) ≤ (k : Int) := by omega
                      have k1 : (k : Int) < 33 := by omega
                      go_upto_region 50 with fail
                      refine wp_region_tail (PP := pnB wy.heap.size g k) 6 rfl (by kernel_rfl) (by kernel_rfl) (by decide) (by decide) (pnB_mono wy.heap.size g k) (fun i => match i with | 0 => u125 | 1 => u126 | 2 => u127 | 3 => u128 | 4 => u129 | _ => u130) (by simp [fillV, put_someN, setIfInBounds_toArray, set_cons_zero, set_cons_succ]) ?_ ?_
                      · intro i o vs W hi ho he hBW K hK
                        simp only [take_succ_cons, take_zero, fillV, put_someN, setIfInBounds_toArray, set_cons_zero, set_cons_succ] at hK ⊢
                        have NIW := Lib.hid (NI.out.then hBW)
                        obtain rfl | rfl | rfl | rfl | rfl | rfl := (show i = 0 ∨ i = 1 ∨ i = 2 ∨ i = 3 ∨ i = 4 ∨ i = 5 by exact (by have : i < 6 := hi; omega))
                        · simp only [getElem?_toArray, getElem?_cons_zero, getElem?_cons_succ, Option.some.injEq] at ho
                          subst ho
                          rw [if_pos (by rfl)]
                          simp only [put_someN, setIfInBounds_toArray, set_cons_zero, set_cons_succ] at hK
                          have HK := Lib.hid hK
                          clear hK he hi hBW
                          go_simp
                          exact HK.out _ _ (by first | rfl | simp [pnB]) (Below.refl _ _)
                        · simp only [getElem?_toArray, getElem?_cons_zero, getElem?_cons_succ, Option.some.injEq] at ho
                          subst ho
                          have e0 : vs 0 = .pointer (some ⟨wy.heap.size, 7, none⟩) := (he ⟨0, .data⟩ (by simp) rfl : pnB wy.heap.size g k 0 (vs 0) W)
                          rw [e0] at hK ⊢
                          rw [if_pos (by rfl)]
                          simp only [put_someN, setIfInBounds_toArray, set_cons_zero, set_cons_succ] at hK
                          have HK := Lib.hid hK
                          clear hK he hi hBW
                          have c7 := NIW.out.c7
                          go_simp
                          exact HK.out _ _ rfl (Below.refl _ _)
                        · simp only [getElem?_toArray, getElem?_cons_zero, getElem?_cons_succ, Option.some.injEq] at ho
                          subst ho
                          rw [if_pos (by rfl)]
                          simp only [put_someN, setIfInBounds_toArray, set_cons_zero, set_cons_succ] at hK
                          have HK := Lib.hid hK
                          clear hK he hi hBW
                          go_simp
                          exact HK.out _ _ (by first | rfl | simp [pnB]) (Below.refl _ _)
                        · simp only [getElem?_toArray, getElem?_cons_zero, getElem?_cons_succ, Option.some.injEq] at ho
                          subst ho
                          rw [if_pos (by rfl)]
                          simp only [put_someN, setIfInBounds_toArray, set_cons_zero, set_cons_succ] at hK
                          have HK := Lib.hid hK
                          clear hK he hi hBW
                          go_simp
                          exact HK.out _ _ (by first | rfl | simp [pnB]) (Below.refl _ _)
                        · simp only [getElem?_toArray, getElem?_cons_zero, getElem?_cons_succ, Option.some.injEq] at ho
                          subst ho
                          have e3 : vs 3 = .func (.func 4) #[] #[] := (he ⟨3, .data⟩ (by simp) rfl : pnB wy.heap.size g k 3 (vs 3) W)
                          rw [e3] at hK ⊢
                          rw [if_pos (by rfl)]
                          simp only [put_someN, setIfInBounds_toArray, set_cons_zero, set_cons_succ] at hK
                          have HK := Lib.hid hK
                          clear hK he hi hBW
                          go_simp
                          go_at_call 4
                          refine (atomn_any _ _).mono ?_
                          rintro en w9 ⟨rfl, h⟩
                          go_simp
                          exact HK.out _ _ rfl h
                        · simp only [getElem?_toArray, getElem?_cons_zero, getElem?_cons_succ, Option.some.injEq] at ho
                          subst ho
                          have e1 : vs 1 = .slice (some ⟨g, 0, none⟩) 33 33 := (he ⟨1, .data⟩ (by simp) rfl : pnB wy.heap.size g k 1 (vs 1) W)
                          rw [e1] at hK ⊢
                          have e2 : vs 2 = .int .i64 (k : Int) := (he ⟨2, .data⟩ (by simp) rfl : pnB wy.heap.size g k 2 (vs 2) W)
                          rw [e2] at hK ⊢
                          rw [if_pos (by rfl)]
                          simp only [put_someN, setIfInBounds_toArray, set_cons_zero, set_cons_succ] at hK
                          have HK := Lib.hid hK
                          clear hK he hi hBW
                          have k2 : (k : Int) < 33 := by omega
                          go_simp
                          exact HK.out _ _ (by first | rfl | simp [pnB]) (Below.refl _ _)
                      intro vs W hall hBW
                      have e4 : vs 4 = .agg #[.int .u8 1, .string ⟨#[97]⟩, .int .u8 0, .int .i64 0, .string ⟨#[]⟩, .string ⟨#[]⟩, .slice none 0 0] := hall 4 (by decide)
                      have e5 : vs 5 = .pointer (some ⟨g, k * 7, none⟩) := hall 5 (by decide)
                      simp only [take_succ_cons, take_zero, List.drop_succ_cons, List.drop_zero, fillV, put_someN, put_noneC, setIfInBounds_toArray, set_cons_zero, set_cons_succ]
                      rw [e4, e5]
                      generalize vs 0 = y0
                      generalize vs 1 = y1
                      generalize vs 2 = y2
                      generalize vs 3 = y3
                      have NS := Lib.hid ((NI.out.then hBW).turn (encR aR) (k * 7))
                      have ow := OI.out.below hBW (Nat.le_refl _)
                      have OS := own_set ow encR_len HLI.out aR
                      rw [rep_setR k hlt] at OS
                      have OS := Lib.hid OS
                      obtain ⟨d0, d1, d2, d3, d4, d5, d6⟩ := own7_at ow HLI.out
                      have ff := own_frozen ow
                      have z0 := ff (k * 7)
                      have z1 := ff (k * 7 + 1)
                      have z2 := ff (k * 7 + 2)
                      have z3 := ff (k * 7 + 3)
                      have z4 := ff (k * 7 + 4)
                      have z5 := ff (k * 7 + 5)
                      have z6 := ff (k * 7 + 6)
                      skip
                      clear ff ow hall hBW e4 e5 NI OI
                      unfold encR setL setL setL setL setL setL setL setL at OS NS
                      go_wp2_with fail
                      go_roundw
                      case rel => exact ⟨k + 1, by omega, by go_num, NS.out, OS.out⟩
                      case measure => simp [intOf]; omega
                    · obtain rfl : k = 33 := by omega
                      have k1 : ¬ (33 : Int) < 33 := by omega
                      clear hlt
                      have OE := Lib.hid (show Own encR 7 g 28 (.slice (some ⟨g, 0, none⟩) 33 33) (List.replicate 33 aR) wr from by have := OI.out; simpa using this)
                      have ar : Alike (GB 11) (req33 q g) := { AQ.out with req := rfl }
                      have SQ := Lib.hid (MAYB.out 11 (by omega) (req33 q g) wr ar (BYW.out.trans (NI.out.old.mono BYW.out.size)) (NI.out.full OE.out rfl))
                      have NO := Lib.hid NI.out.old
                      have e7 := NI.out.c7
                      obtain ⟨⟨_, e0, e1, e2, e3, e4, e5, e6, e7x, e8, e9, e10, e11, e12, e13, e14⟩, _, _⟩ := NI.out.box
                      clear e7x ar OI OE NI AQ MAYB
                      unfold Pk.val req33 at SQ
                      unfold req33 at e0 e1 e2 e3 e4 e5 e6 e8 e9 e10 e11 e12 e13 e14
                      dsimp only at SQ e0 e1 e2 e3 e4 e5 e6 e8 e9 e10 e11 e12 e13 e14
                      simp only [List.length_replicate] at SQ
                      go_wp2_with fail
                      go_at_call 6
                      refine SQ.out.mono ?_
                      rintro e wz ⟨rfl, h⟩
                      have BZ := Lib.hid (BY.out.trans ((NO.out.trans (h.mono NO.out.size)).mono BY.out.size))
                      clear h SQ NO e0 e1 e2 e3 e4 e5 e6 e7 e8 e9 e10 e11 e12 e13 e14
                      go_wp2_with fail
                      go_roundw
                      case rel => exact ⟨12, by omega, by go_num, BZ.out⟩
                      case measure => simp [intOf]
              · as_aux_lemma =>
                  have ha := (Below.refl V.heap.size V).alloc (Nat.le_refl _) (.cells #[.int .u8 F.kind, .string (bs F.dep.name), .int .u8 F.dep.op, .int .i64 F.dep.evr.epoch, .string (bs F.dep.evr.ver), .string (bs F.dep.evr.rel), .slice F.addr F.args.length F.cap] 28)
                  have hnx : ¬ (fun x => x = wy.heap.size) V.heap.size := fun hx => by have := NP.out.box.2.2; have hx2 : V.heap.size = wy.heap.size := hx; omega
                  have BV := Lib.hid (BY.out.trans (NP.out.old.mono BY.out.size))
                  have FV := Lib.hid (FX.out.past BV.out FX.out.1)
                  have TV := Lib.hid (TS.of (X := (fun x => x = wy.heap.size)) (TF.out.keeps BV.out) BV.out.size (fun b hb hx => by have hx2 : b = wy.heap.size := hx; have := BY.out.size; omega))
                  obtain ⟨_, x0, x1, x2, x3, x4, x5, x6⟩ := FV.out
                  have rr := (RRS.lit (X := (fun x => x = wy.heap.size)) (l := [F]) (cs := #[.int .u8 F.kind, .string (bs F.dep.name), .int .u8 F.dep.op, .int .i64 F.dep.evr.epoch, .string (bs F.dep.evr.ver), .string (bs F.dep.evr.rel), .slice F.addr F.args.length F.cap]) (e := 28) (n := 1) rfl rfl (by decide) hnx (fun t ht => by simp only [List.mem_cons, List.not_mem_nil, or_false] at ht; subst ht; exact TV.out))
                  have np2 := NP.out.then ha
                  have rp2 := RP.out.keep (Kept.of (X := (fun x => x = wy.heap.size)) ha)
                  have BZ0 := Lib.hid NP.out.box.2.2
                  have n1 : NmP (fun x => x = wy.heap.size) wy.heap.size { q with conA := some ⟨V.heap.size, 0, none⟩, conC := 1, con := [F] } wy ((V.alloc (.cells #[.int .u8 F.kind, .string (bs F.dep.name), .int .u8 F.dep.op, .int .i64 F.dep.evr.epoch, .string (bs F.dep.evr.ver), .string (bs F.dep.evr.rel), .slice F.addr F.args.length F.cap] 28)).setCell ⟨wy.heap.size, 8, none⟩ (.slice (some ⟨V.heap.size, 0, none⟩) 1 1)) := np2.con rr
                  have rp3 := rp2.keep (Kept.set (X := (fun x => x = wy.heap.size)) (cb := wy.heap.size) rfl 8 (.slice (some ⟨V.heap.size, 0, none⟩) 1 1))
                  rw [set_alloc V (.cells #[.int .u8 F.kind, .string (bs F.dep.name), .int .u8 F.dep.op, .int .i64 F.dep.evr.epoch, .string (bs F.dep.evr.ver), .string (bs F.dep.evr.rel), .slice F.addr F.args.length F.cap] 28) ⟨wy.heap.size, 8, none⟩ (.slice (some ⟨V.heap.size, 0, none⟩) 1 1) BZ0.out] at n1 rp3
                  have ar : Alike (GB 12) { q with conA := some ⟨V.heap.size, 0, none⟩, conC := 1, con := [F] } := { AQ.out with con := (by simp only [treeL, FE.out]; rfl) }
                  have SQ := Lib.hid (MAYB.out 12 (by omega) { q with conA := some ⟨V.heap.size, 0, none⟩, conC := 1, con := [F] } _ ar (BYW.out.trans (n1.old.mono BYW.out.size)) (n1.full rp3 WF.out))
                  have NO := Lib.hid n1.old
                  unfold Pk.val at SQ
                  dsimp only at SQ
                  obtain ⟨⟨bl, c0, c1, c2, c3, c4, c5, c6, c7, c8, c9, c10, c11, c12, c13, c14⟩, bf, bz⟩ := NP.out.box
                  have ff := bf 8 (by decide)
                  have bn : wy.heap.size ≠ V.heap.size := by omega
                  clear ha hnx n1 rr np2 rp2 rp3 ar bf NP RP QL OQ AQ MAYB MAYE CPY
                  go_upto_region 52 with fail
                  go_step
                  go_step
                  go_step
                  go_step
                  go_step
                  refine op_build1R _ _ _ _ _ _ _ _ rfl rfl ?_
                  simp only [put_someN, setIfInBounds_toArray, set_cons_zero, set_cons_succ]
                  go_wp2_with fail
                  go_at_call 6
                  refine SQ.out.mono ?_
                  rintro e wz ⟨rfl, h⟩
                  have BZ := Lib.hid (BY.out.trans ((NO.out.trans (h.mono NO.out.size)).mono BY.out.size))
                  clear h SQ NO bl bz ff bn c0 c1 c2 c3 c4 c5 c6 c7 c8 c9 c10 c11 c12 c13 c14 x0 x1 x2 x3 x4 x5 x6
                  go_wp2_with fail
                  go_roundw
                  case rel => exact ⟨13, by omega, by go_num, BZ.out⟩
                  case measure => simp [intOf]
              · as_aux_lemma =>
                  have ha := (Below.refl V.heap.size V).alloc (Nat.le_refl _) (.cells #[.int .u8 U.kind, .string (bs U.dep.name), .int .u8 U.dep.op, .int .i64 U.dep.evr.epoch, .string (bs U.dep.evr.ver), .string (bs U.dep.evr.rel), .slice U.addr U.args.length U.cap] 28)
                  have hnx : ¬ (fun x => x = wy.heap.size) V.heap.size := fun hx => by have := NP.out.box.2.2; have hx2 : V.heap.size = wy.heap.size := hx; omega
                  have BV := Lib.hid (BY.out.trans (NP.out.old.mono BY.out.size))
                  have FV := Lib.hid (UX.out.past BV.out UX.out.1)
                  have TV := Lib.hid (TS.of (X := (fun x => x = wy.heap.size)) (TU.out.keeps BV.out) BV.out.size (fun b hb hx => by have hx2 : b = wy.heap.size := hx; have := BY.out.size; omega))
                  obtain ⟨_, x0, x1, x2, x3, x4, x5, x6⟩ := FV.out
                  have rr := (RRS.lit (X := (fun x => x = wy.heap.size)) (l := [U]) (cs := #[.int .u8 U.kind, .string (bs U.dep.name), .int .u8 U.dep.op, .int .i64 U.dep.evr.epoch, .string (bs U.dep.evr.ver), .string (bs U.dep.evr.rel), .slice U.addr U.args.length U.cap]) (e := 28) (n := 1) rfl rfl (by decide) hnx (fun t ht => by simp only [List.mem_cons, List.not_mem_nil, or_false] at ht; subst ht; exact TV.out))
                  have np2 := NP.out.then ha
                  have rp2 := RP.out.keep (Kept.of (X := (fun x => x = wy.heap.size)) ha)
                  have BZ0 := Lib.hid NP.out.box.2.2
                  have n1 : NmP (fun x => x = wy.heap.size) wy.heap.size { q with supA := some ⟨V.heap.size, 0, none⟩, supC := 1, sup := [U] } wy ((V.alloc (.cells #[.int .u8 U.kind, .string (bs U.dep.name), .int .u8 U.dep.op, .int .i64 U.dep.evr.epoch, .string (bs U.dep.evr.ver), .string (bs U.dep.evr.rel), .slice U.addr U.args.length U.cap] 28)).setCell ⟨wy.heap.size, 11, none⟩ (.slice (some ⟨V.heap.size, 0, none⟩) 1 1)) := np2.sup rr
                  have rp3 := rp2.keep (Kept.set (X := (fun x => x = wy.heap.size)) (cb := wy.heap.size) rfl 11 (.slice (some ⟨V.heap.size, 0, none⟩) 1 1))
                  rw [set_alloc V (.cells #[.int .u8 U.kind, .string (bs U.dep.name), .int .u8 U.dep.op, .int .i64 U.dep.evr.epoch, .string (bs U.dep.evr.ver), .string (bs U.dep.evr.rel), .slice U.addr U.args.length U.cap] 28) ⟨wy.heap.size, 11, none⟩ (.slice (some ⟨V.heap.size, 0, none⟩) 1 1) BZ0.out] at n1 rp3
                  have ar : Alike (GB 13) { q with supA := some ⟨V.heap.size, 0, none⟩, supC := 1, sup := [U] } := { AQ.out with sup := (by simp only [treeL, UE.out]; rfl) }
                  have SQ := Lib.hid (MAYB.out 13 (by omega) { q with supA := some ⟨V.heap.size, 0, none⟩, supC := 1, sup := [U] } _ ar (BYW.out.trans (n1.old.mono BYW.out.size)) (n1.full rp3 WF.out))
                  have NO := Lib.hid n1.old
                  unfold Pk.val at SQ
                  dsimp only at SQ
                  obtain ⟨⟨bl, c0, c1, c2, c3, c4, c5, c6, c7, c8, c9, c10, c11, c12, c13, c14⟩, bf, bz⟩ := NP.out.box
                  have ff := bf 11 (by decide)
                  have bn : wy.heap.size ≠ V.heap.size := by omega
                  clear ha hnx n1 rr np2 rp2 rp3 ar bf NP RP QL OQ AQ MAYB MAYE CPY
                  go_upto_region 54 with fail
                  go_step
                  go_step
                  go_step
                  go_step
                  go_step
                  refine op_build1R _ _ _ _ _ _ _ _ rfl rfl ?_
                  simp only [put_someN, setIfInBounds_toArray, set_cons_zero, set_cons_succ]
                  go_wp2_with fail
                  go_at_call 6
                  refine SQ.out.mono ?_
                  rintro e wz ⟨rfl, h⟩
                  have BZ := Lib.hid (BY.out.trans ((NO.out.trans (h.mono NO.out.size)).mono BY.out.size))
                  clear h SQ NO bl bz ff bn c0 c1 c2 c3 c4 c5 c6 c7 c8 c9 c10 c11 c12 c13 c14 x0 x1 x2 x3 x4 x5 x6
                  go_wp2_with fail
                  go_roundw
                  case rel => exact ⟨14, by omega, by go_num, BZ.out⟩
                  case measure => simp [intOf]
              · as_aux_lemma =>
                  have ha := (Below.refl V.heap.size V).alloc (Nat.le_refl _) (.cells #[.int .u8 F.kind, .string (bs F.dep.name), .int .u8 F.dep.op, .int .i64 F.dep.evr.epoch, .string (bs F.dep.evr.ver), .string (bs F.dep.evr.rel), .slice F.addr F.args.length F.cap] 28)
                  have hnx : ¬ (fun x => x = wy.heap.size) V.heap.size := fun hx => by have := NP.out.box.2.2; have hx2 : V.heap.size = wy.heap.size := hx; omega
                  have BV := Lib.hid (BY.out.trans (NP.out.old.mono BY.out.size))
                  have FV := Lib.hid (FX.out.past BV.out FX.out.1)
                  have TV := Lib.hid (TS.of (X := (fun x => x = wy.heap.size)) (TF.out.keeps BV.out) BV.out.size (fun b hb hx => by have hx2 : b = wy.heap.size := hx; have := BY.out.size; omega))
                  obtain ⟨_, x0, x1, x2, x3, x4, x5, x6⟩ := FV.out
                  have rr := (RRS.lit (X := (fun x => x = wy.heap.size)) (l := [F]) (cs := #[.int .u8 F.kind, .string (bs F.dep.name), .int .u8 F.dep.op, .int .i64 F.dep.evr.epoch, .string (bs F.dep.evr.ver), .string (bs F.dep.evr.rel), .slice F.addr F.args.length F.cap]) (e := 28) (n := 1) rfl rfl (by decide) hnx (fun t ht => by simp only [List.mem_cons, List.not_mem_nil, or_false] at ht; subst ht; exact TV.out))
                  have np2 := NP.out.then ha
                  have rp2 := RP.out.keep (Kept.of (X := (fun x => x = wy.heap.size)) ha)
                  have BZ0 := Lib.hid NP.out.box.2.2
                  have n1 : NmP (fun x => x = wy.heap.size) wy.heap.size { q with enhA := some ⟨V.heap.size, 0, none⟩, enhC := 1, enh := [F] } wy ((V.alloc (.cells #[.int .u8 F.kind, .string (bs F.dep.name), .int .u8 F.dep.op, .int .i64 F.dep.evr.epoch, .string (bs F.dep.evr.ver), .string (bs F.dep.evr.rel), .slice F.addr F.args.length F.cap] 28)).setCell ⟨wy.heap.size, 13, none⟩ (.slice (some ⟨V.heap.size, 0, none⟩) 1 1)) := np2.enh rr
                  have rp3 := rp2.keep (Kept.set (X := (fun x => x = wy.heap.size)) (cb := wy.heap.size) rfl 13 (.slice (some ⟨V.heap.size, 0, none⟩) 1 1))
                  rw [set_alloc V (.cells #[.int .u8 F.kind, .string (bs F.dep.name), .int .u8 F.dep.op, .int .i64 F.dep.evr.epoch, .string (bs F.dep.evr.ver), .string (bs F.dep.evr.rel), .slice F.addr F.args.length F.cap] 28) ⟨wy.heap.size, 13, none⟩ (.slice (some ⟨V.heap.size, 0, none⟩) 1 1) BZ0.out] at n1 rp3
                  have ar : Alike (GB 14) { q with enhA := some ⟨V.heap.size, 0, none⟩, enhC := 1, enh := [F] } := { AQ.out with enh := (by simp only [treeL, FE.out]; rfl) }
                  have SQ := Lib.hid (MAYB.out 14 (by omega) { q with enhA := some ⟨V.heap.size, 0, none⟩, enhC := 1, enh := [F] } _ ar (BYW.out.trans (n1.old.mono BYW.out.size)) (n1.full rp3 WF.out))
                  have NO := Lib.hid n1.old
                  unfold Pk.val at SQ
                  dsimp only at SQ
                  obtain ⟨⟨bl, c0, c1, c2, c3, c4, c5, c6, c7, c8, c9, c10, c11, c12, c13, c14⟩, bf, bz⟩ := NP.out.box
                  have ff := bf 13 (by decide)
                  have bn : wy.heap.size ≠ V.heap.size := by omega
                  clear ha hnx n1 rr np2 rp2 rp3 ar bf NP RP QL OQ AQ MAYB MAYE CPY
                  go_upto_region 56 with fail
                  go_step
                  go_step
                  go_step
                  go_step
                  go_step
                  refine op_build1R _ _ _ _ _ _ _ _ rfl rfl ?_
                  simp only [put_someN, setIfInBounds_toArray, set_cons_zero, set_cons_succ]
                  go_wp2_with fail
                  go_at_call 6
                  refine SQ.out.mono ?_
                  rintro e wz ⟨rfl, h⟩
                  have BZ := Lib.hid (BY.out.trans ((NO.out.trans (h.mono NO.out.size)).mono BY.out.size))
                  clear h SQ NO bl bz ff bn c0 c1 c2 c3 c4 c5 c6 c7 c8 c9 c10 c11 c12 c13 c14 x0 x1 x2 x3 x4 x5 x6
                  go_wp2_with fail
                  go_roundw
                  case rel => exact ⟨15, by omega, by go_num, BZ.out⟩
                  case measure => simp [intOf]
              · as_aux_lemma =>
                  have ha := (Below.refl V.heap.size V).alloc (Nat.le_refl _) (.cells #[.int .u8 0, .string ⟨#[]⟩, .int .u8 0, .int .i64 0, .string ⟨#[]⟩, .string ⟨#[]⟩, .slice none 0 0] 28)
                  have hnx : ¬ (fun x => x = wy.heap.size) V.heap.size := fun hx => by have := NP.out.box.2.2; have hx2 : V.heap.size = wy.heap.size := hx; omega
                  have BV := Lib.hid (BY.out.trans (NP.out.old.mono BY.out.size))
                  have rr := (RRS.lit (X := (fun x => x = wy.heap.size)) (l := [zeroRV]) (cs := #[.int .u8 0, .string ⟨#[]⟩, .int .u8 0, .int .i64 0, .string ⟨#[]⟩, .string ⟨#[]⟩, .slice none 0 0]) (e := 28) (n := 1) rfl rfl (by decide) hnx (fun t ht => by simp only [List.mem_cons, List.not_mem_nil, or_false] at ht; subst ht; exact zeroR_ts _ _ 0))
                  have np2 := NP.out.then ha
                  have rp2 := RP.out.keep (Kept.of (X := (fun x => x = wy.heap.size)) ha)
                  have BZ0 := Lib.hid NP.out.box.2.2
                  have n1 : NmP (fun x => x = wy.heap.size) wy.heap.size { q with rcmA := some ⟨V.heap.size, 0, none⟩, rcmC := 1, rcm := [zeroRV] } wy ((V.alloc (.cells #[.int .u8 0, .string ⟨#[]⟩, .int .u8 0, .int .i64 0, .string ⟨#[]⟩, .string ⟨#[]⟩, .slice none 0 0] 28)).setCell ⟨wy.heap.size, 10, none⟩ (.slice (some ⟨V.heap.size, 0, none⟩) 1 1)) := np2.rcm rr
                  have rp3 := rp2.keep (Kept.set (X := (fun x => x = wy.heap.size)) (cb := wy.heap.size) rfl 10 (.slice (some ⟨V.heap.size, 0, none⟩) 1 1))
                  rw [set_alloc V (.cells #[.int .u8 0, .string ⟨#[]⟩, .int .u8 0, .int .i64 0, .string ⟨#[]⟩, .string ⟨#[]⟩, .slice none 0 0] 28) ⟨wy.heap.size, 10, none⟩ (.slice (some ⟨V.heap.size, 0, none⟩) 1 1) BZ0.out] at n1 rp3
                  have ar : Alike (GB 15) { q with rcmA := some ⟨V.heap.size, 0, none⟩, rcmC := 1, rcm := [zeroRV] } := { AQ.out with rcm := rfl }
                  have SQ := Lib.hid (MAYB.out 15 (by omega) { q with rcmA := some ⟨V.heap.size, 0, none⟩, rcmC := 1, rcm := [zeroRV] } _ ar (BYW.out.trans (n1.old.mono BYW.out.size)) (n1.full rp3 WF.out))
                  have NO := Lib.hid n1.old
                  unfold Pk.val at SQ
                  dsimp only at SQ
                  obtain ⟨⟨bl, c0, c1, c2, c3, c4, c5, c6, c7, c8, c9, c10, c11, c12, c13, c14⟩, bf, bz⟩ := NP.out.box
                  have ff := bf 10 (by decide)
                  have bn : wy.heap.size ≠ V.heap.size := by omega
                  clear ha hnx n1 rr np2 rp2 rp3 ar bf NP RP QL OQ AQ MAYB MAYE CPY
                  go_upto_region 58 with fail
                  go_step
                  go_step
                  go_step
                  go_step
                  go_step
                  refine op_build1R _ _ _ _ _ _ _ _ rfl rfl ?_
                  simp only [put_someN, setIfInBounds_toArray, set_cons_zero, set_cons_succ]
                  go_wp2_with fail
                  go_at_call 6
                  refine SQ.out.mono ?_
                  rintro e wz ⟨rfl, h⟩
                  have BZ := Lib.hid (BY.out.trans ((NO.out.trans (h.mono NO.out.size)).mono BY.out.size))
                  clear h SQ NO bl bz ff bn c0 c1 c2 c3 c4 c5 c6 c7 c8 c9 c10 c11 c12 c13 c14
                  go_wp2_with fail
                  go_roundw
                  case rel => exact ⟨16, by omega, by go_num, BZ.out⟩
                  case measure => simp [intOf]
              · as_aux_lemma =>
                  have ha := (Below.refl V.heap.size V).alloc (Nat.le_refl _) (.cells #[.string ⟨#[47, 98]⟩, .string ⟨#[47, 97]⟩] 9)
                  have hnx : ¬ (fun x => x = wy.heap.size) V.heap.size := fun hx => by have := NP.out.box.2.2; have hx2 : V.heap.size = wy.heap.size := hx; omega
                  have BV := Lib.hid (BY.out.trans (NP.out.old.mono BY.out.size))
                  have rr := (RdS.lit (X := (fun x => x = wy.heap.size)) (enc := encT1) (size := 1) (l := [⟨#[47, 98]⟩, ⟨#[47, 97]⟩]) (cs := #[.string ⟨#[47, 98]⟩, .string ⟨#[47, 97]⟩]) (e := 9) (n := 2) encT1_len rfl rfl (by decide) hnx)
                  have np2 := NP.out.then ha
                  have rp2 := RP.out.keep (Kept.of (X := (fun x => x = wy.heap.size)) ha)
                  have BZ0 := Lib.hid NP.out.box.2.2
                  have n1 : NmP (fun x => x = wy.heap.size) wy.heap.size { q with filesA := some ⟨V.heap.size, 0, none⟩, filesC := 2, files := [⟨#[47, 98]⟩, ⟨#[47, 97]⟩] } wy ((V.alloc (.cells #[.string ⟨#[47, 98]⟩, .string ⟨#[47, 97]⟩] 9)).setCell ⟨wy.heap.size, 14, none⟩ (.slice (some ⟨V.heap.size, 0, none⟩) 2 2)) := np2.files rr (fun s hs => by simp only [List.mem_cons, List.not_mem_nil, or_false] at hs; rcases hs with rfl | rfl <;> decide)
                  have rp3 := rp2.keep (Kept.set (X := (fun x => x = wy.heap.size)) (cb := wy.heap.size) rfl 14 (.slice (some ⟨V.heap.size, 0, none⟩) 2 2))
                  rw [set_alloc V (.cells #[.string ⟨#[47, 98]⟩, .string ⟨#[47, 97]⟩] 9) ⟨wy.heap.size, 14, none⟩ (.slice (some ⟨V.heap.size, 0, none⟩) 2 2) BZ0.out] at n1 rp3
                  have ar : Alike (GB 16) { q with filesA := some ⟨V.heap.size, 0, none⟩, filesC := 2, files := [⟨#[47, 98]⟩, ⟨#[47, 97]⟩] } := { AQ.out with files := rfl }
                  have SQ := Lib.hid (MAYB.out 16 (by omega) { q with filesA := some ⟨V.heap.size, 0, none⟩, filesC := 2, files := [⟨#[47, 98]⟩, ⟨#[47, 97]⟩] } _ ar (BYW.out.trans (n1.old.mono BYW.out.size)) (n1.full rp3 WF.out))
                  have NO := Lib.hid n1.old
                  unfold Pk.val at SQ
                  dsimp only at SQ
                  obtain ⟨⟨bl, c0, c1, c2, c3, c4, c5, c6, c7, c8, c9, c10, c11, c12, c13, c14⟩, bf, bz⟩ := NP.out.box
                  have ff := bf 14 (by decide)
                  have bn : wy.heap.size ≠ V.heap.size := by omega
                  clear ha hnx n1 rr np2 rp2 rp3 ar bf NP RP QL OQ AQ MAYB MAYE CPY
                  go_wp2_with fail
                  go_at_call 6
                  refine SQ.out.mono ?_
                  rintro e wz ⟨rfl, h⟩
                  have BZ := Lib.hid (BY.out.trans ((NO.out.trans (h.mono NO.out.size)).mono BY.out.size))
                  clear h SQ NO bl bz ff bn c0 c1 c2 c3 c4 c5 c6 c7 c8 c9 c10 c11 c12 c13 c14
                  go_wp2_with fail
                  go_roundw
                  case rel => exact ⟨17, by omega, by go_num, BZ.out⟩
                  case measure => simp [intOf]
              · as_aux_lemma =>
                  have ha := (Below.refl V.heap.size V).alloc (Nat.le_refl _) (.cells #[.string ⟨#[47, 97]⟩, .string ⟨#[47, 97]⟩] 9)
                  have hnx : ¬ (fun x => x = wy.heap.size) V.heap.size := fun hx => by have := NP.out.box.2.2; have hx2 : V.heap.size = wy.heap.size := hx; omega
                  have BV := Lib.hid (BY.out.trans (NP.out.old.mono BY.out.size))
                  have rr := (RdS.lit (X := (fun x => x = wy.heap.size)) (enc := encT1) (size := 1) (l := [⟨#[47, 97]⟩, ⟨#[47, 97]⟩]) (cs := #[.string ⟨#[47, 97]⟩, .string ⟨#[47, 97]⟩]) (e := 9) (n := 2) encT1_len rfl rfl (by decide) hnx)
                  have np2 := NP.out.then ha
                  have rp2 := RP.out.keep (Kept.of (X := (fun x => x = wy.heap.size)) ha)
                  have BZ0 := Lib.hid NP.out.box.2.2
                  have n1 : NmP (fun x => x = wy.heap.size) wy.heap.size { q with filesA := some ⟨V.heap.size, 0, none⟩, filesC := 2, files := [⟨#[47, 97]⟩, ⟨#[47, 97]⟩] } wy ((V.alloc (.cells #[.string ⟨#[47, 97]⟩, .string ⟨#[47, 97]⟩] 9)).setCell ⟨wy.heap.size, 14, none⟩ (.slice (some ⟨V.heap.size, 0, none⟩) 2 2)) := np2.files rr (fun s hs => by simp only [List.mem_cons, List.not_mem_nil, or_false] at hs; rcases hs with rfl | rfl <;> decide)
                  have rp3 := rp2.keep (Kept.set (X := (fun x => x = wy.heap.size)) (cb := wy.heap.size) rfl 14 (.slice (some ⟨V.heap.size, 0, none⟩) 2 2))
                  rw [set_alloc V (.cells #[.string ⟨#[47, 97]⟩, .string ⟨#[47, 97]⟩] 9) ⟨wy.heap.size, 14, none⟩ (.slice (some ⟨V.heap.size, 0, none⟩) 2 2) BZ0.out] at n1 rp3
                  have ar : Alike (GB 17) { q with filesA := some ⟨V.heap.size, 0, none⟩, filesC := 2, files := [⟨#[47, 97]⟩, ⟨#[47, 97]⟩] } := { AQ.out with files := rfl }
                  have SQ := Lib.hid (MAYB.out 17 (by omega) { q with filesA := some ⟨V.heap.size, 0, none⟩, filesC := 2, files := [⟨#[47, 97]⟩, ⟨#[47, 97]⟩] } _ ar (BYW.out.trans (n1.old.mono BYW.out.size)) (n1.full rp3 WF.out))
                  have NO := Lib.hid n1.old
                  unfold Pk.val at SQ
                  dsimp only at SQ
                  obtain ⟨⟨bl, c0, c1, c2, c3, c4, c5, c6, c7, c8, c9, c10, c11, c12, c13, c14⟩, bf, bz⟩ := NP.out.box
                  have ff := bf 14 (by decide)
                  have bn : wy.heap.size ≠ V.heap.size := by omega
                  clear ha hnx n1 rr np2 rp2 rp3 ar bf NP RP QL OQ AQ MAYB MAYE CPY
                  go_wp2_with fail
                  go_at_call 6
                  refine SQ.out.mono ?_
                  rintro e wz ⟨rfl, h⟩
                  have BZ := Lib.hid (BY.out.trans ((NO.out.trans (h.mono NO.out.size)).mono BY.out.size))
                  clear h SQ NO bl bz ff bn c0 c1 c2 c3 c4 c5 c6 c7 c8 c9 c10 c11 c12 c13 c14
                  go_wp2_with fail
                  go_roundw
                  case rel => exact ⟨18, by omega, by go_num, BZ.out⟩
                  case measure => simp [intOf]
              · as_aux_lemma =>
                  have ha := (Below.refl V.heap.size V).alloc (Nat.le_refl _) (.cells #[.string ⟨#[97]⟩] 9)
                  have hnx : ¬ (fun x => x = wy.heap.size) V.heap.size := fun hx => by have := NP.out.box.2.2; have hx2 : V.heap.size = wy.heap.size := hx; omega
                  have BV := Lib.hid (BY.out.trans (NP.out.old.mono BY.out.size))
                  have rr := (RdS.lit (X := (fun x => x = wy.heap.size)) (enc := encT1) (size := 1) (l := [⟨#[97]⟩]) (cs := #[.string ⟨#[97]⟩]) (e := 9) (n := 1) encT1_len rfl rfl (by decide) hnx)
                  have np2 := NP.out.then ha
                  have rp2 := RP.out.keep (Kept.of (X := (fun x => x = wy.heap.size)) ha)
                  have BZ0 := Lib.hid NP.out.box.2.2
                  have n1 : NmP (fun x => x = wy.heap.size) wy.heap.size { q with filesA := some ⟨V.heap.size, 0, none⟩, filesC := 1, files := [⟨#[97]⟩] } wy ((V.alloc (.cells #[.string ⟨#[97]⟩] 9)).setCell ⟨wy.heap.size, 14, none⟩ (.slice (some ⟨V.heap.size, 0, none⟩) 1 1)) := np2.files rr (fun s hs => by simp only [List.mem_cons, List.not_mem_nil, or_false] at hs; subst hs; decide)
                  have rp3 := rp2.keep (Kept.set (X := (fun x => x = wy.heap.size)) (cb := wy.heap.size) rfl 14 (.slice (some ⟨V.heap.size, 0, none⟩) 1 1))
                  rw [set_alloc V (.cells #[.string ⟨#[97]⟩] 9) ⟨wy.heap.size, 14, none⟩ (.slice (some ⟨V.heap.size, 0, none⟩) 1 1) BZ0.out] at n1 rp3
                  have ar : Alike (GB 18) { q with filesA := some ⟨V.heap.size, 0, none⟩, filesC := 1, files := [⟨#[97]⟩] } := { AQ.out with files := rfl }
                  have SQ := Lib.hid (MAYB.out 18 (by omega) { q with filesA := some ⟨V.heap.size, 0, none⟩, filesC := 1, files := [⟨#[97]⟩] } _ ar (BYW.out.trans (n1.old.mono BYW.out.size)) (n1.full rp3 WF.out))
                  have NO := Lib.hid n1.old
                  unfold Pk.val at SQ
                  dsimp only at SQ
                  obtain ⟨⟨bl, c0, c1, c2, c3, c4, c5, c6, c7, c8, c9, c10, c11, c12, c13, c14⟩, bf, bz⟩ := NP.out.box
                  have ff := bf 14 (by decide)
                  have bn : wy.heap.size ≠ V.heap.size := by omega
                  clear ha hnx n1 rr np2 rp2 rp3 ar bf NP RP QL OQ AQ MAYB MAYE CPY
                  go_wp2_with fail
                  go_at_call 6
                  refine SQ.out.mono ?_
                  rintro e wz ⟨rfl, h⟩
                  have BZ := Lib.hid (BY.out.trans ((NO.out.trans (h.mono NO.out.size)).mono BY.out.size))
                  clear h SQ NO bl bz ff bn c0 c1 c2 c3 c4 c5 c6 c7 c8 c9 c10 c11 c12 c13 c14
                  go_wp2_with fail
                  go_roundw
                  case rel => exact ⟨19, by omega, by go_num, BZ.out⟩
                  case measure => simp [intOf]
            · obtain rfl : i = 19 := by omega
              have i1 : ¬ (19 : Int) < 19 := by omega
              clear hlt
              as_aux_lemma =>
                have OBS := Lib.hid (fun (x y : Pk) W (hl : x.Laid W.heap.size W) (sm : x.small) (ok : y.evr.ok) => pkobs_any x y W hl sm ok)
                have AWK := Lib.hid (fun W (h : Below w.heap.size w W) => awake10 W (HI.out.below h))
                have B0 := Lib.hid (BG.out.trans (BX.out.mono BG.out.size))
                clear hB CPY MAYB MAYE LG TF TU FX UX PA6
                go_wp2_with fail
                go_at_call 5
                refine (one10_any _).mono ?_
                rintro e wd ⟨rfl, h⟩
                have B0 := Lib.hid (B0.out.trans (h.mono B0.out.size))
                clear h
                go_wp2_with fail
                go_at_call 5
                refine (one10_any _).mono ?_
                rintro e we ⟨rfl, h⟩
                have B0 := Lib.hid (B0.out.trans (h.mono B0.out.size))
                clear h
                go_upto_region 66 with fail
                have hz1 : (we.alloc (.cells #[.string ⟨#[97]⟩, .int .i64 0, .string ⟨#[49]⟩, .string ⟨#[49]⟩, .int .u8 1, .string ⟨#[]⟩, .slice none 0 0, .slice none 0 0, .slice none 0 0, .slice none 0 0, .slice none 0 0, .slice none 0 0, .slice none 0 0, .slice none 0 0, .slice none 0 0] 33)).heap.size = we.heap.size + 1 := by simp
                obtain ⟨Z1, hZ1⟩ : ∃ Z, Z = (we.alloc (.cells #[.string ⟨#[97]⟩, .int .i64 0, .string ⟨#[49]⟩, .string ⟨#[49]⟩, .int .u8 1, .string ⟨#[]⟩, .slice none 0 0, .slice none 0 0, .slice none 0 0, .slice none 0 0, .slice none 0 0, .slice none 0 0, .slice none 0 0, .slice none 0 0, .slice none 0 0] 33)).alloc (.cells #[.string ⟨#[97]⟩, .int .i64 0, .string ⟨#[49]⟩, .string ⟨#[49]⟩, .int .u8 1, .string ⟨#[]⟩, .slice none 0 0, .slice none 0 0, .slice none 0 0, .slice none 0 0, .slice none 0 0, .slice none 0 0, .slice none 0 0, .slice none 0 0, .slice none 0 0] 33) := ⟨_, rfl⟩
                have bl := box_p1 we
                have bh := box_p1 (we.alloc (.cells #[.string ⟨#[97]⟩, .int .i64 0, .string ⟨#[49]⟩, .string ⟨#[49]⟩, .int .u8 1, .string ⟨#[]⟩, .slice none 0 0, .slice none 0 0, .slice none 0 0, .slice none 0 0, .slice none 0 0, .slice none 0 0, .slice none 0 0, .slice none 0 0, .slice none 0 0] 33))
                have ha := (Below.refl (we.alloc (.cells #[.string ⟨#[97]⟩, .int .i64 0, .string ⟨#[49]⟩, .string ⟨#[49]⟩, .int .u8 1, .string ⟨#[]⟩, .slice none 0 0, .slice none 0 0, .slice none 0 0, .slice none 0 0, .slice none 0 0, .slice none 0 0, .slice none 0 0, .slice none 0 0, .slice none 0 0] 33)).heap.size (we.alloc (.cells #[.string ⟨#[97]⟩, .int .i64 0, .string ⟨#[49]⟩, .string ⟨#[49]⟩, .int .u8 1, .string ⟨#[]⟩, .slice none 0 0, .slice none 0 0, .slice none 0 0, .slice none 0 0, .slice none 0 0, .slice none 0 0, .slice none 0 0, .slice none 0 0, .slice none 0 0] 33))).alloc (Nat.le_refl _) (.cells #[.string ⟨#[97]⟩, .int .i64 0, .string ⟨#[49]⟩, .string ⟨#[49]⟩, .int .u8 1, .string ⟨#[]⟩, .slice none 0 0, .slice none 0 0, .slice none 0 0, .slice none 0 0, .slice none 0 0, .slice none 0 0, .slice none 0 0, .slice none 0 0, .slice none 0 0] 33)
                have bl := bl.then ha
                rw [← hZ1] at bl bh ha ⊢
                rw [hz1] at bh ha
                have B1 := Lib.hid (B0.out.trans (((Below.refl we.heap.size we).alloc (Nat.le_refl _) _).trans (ha.mono (Nat.le_succ _)) |>.mono B0.out.size))
                obtain ⟨lb, hlb⟩ : ∃ b, b = we.heap.size := ⟨_, rfl⟩
                obtain ⟨hb, hhb⟩ : ∃ b, b = we.heap.size + 1 := ⟨_, rfl⟩
                have NE := Lib.hid (show lb ≠ hb by omega)
                have LW := Lib.hid (show w.heap.size ≤ lb ∧ w.heap.size ≤ hb by have := B0.out.size; omega)
                rw [← hhb] at bh ⊢
                rw [← hlb] at bl ⊢
                have BL := Lib.hid bl
                have BH := Lib.hid bh
                clear hZ1 hz1 ha bl bh hlb hhb B0
                generalize (Value.agg #[.string ⟨#[97]⟩, .int .i64 0, .string ⟨#[49]⟩, .string ⟨#[49]⟩, .int .u8 1, .string ⟨#[]⟩, .slice none 0 0, .slice none 0 0, .slice none 0 0, .slice none 0 0, .slice none 0 0, .slice none 0 0, .slice none 0 0, .slice none 0 0, .slice none 0 0]) = gvc
                obtain ⟨⟨bl, c0, c1, c2, c3, c4, c5, c6, c7, c8, c9, c10, c11, c12, c13, c14⟩, bf, bz⟩ := BL.out
                have f0 := bf 0 (by decide)
                have f2 := bf 2 (by decide)
                go_upto_region 67 with fail
                clear bl bf bz f0 f2 c0 c1 c2 c3 c4 c5 c6 c7 c8 c9 c10 c11 c12 c13 c14
                have b2 : Box15 lb lowP ((Z1.setCell ⟨lb, 0, none⟩ (.string ⟨#[111, 108, 100]⟩)).setCell ⟨lb, 2, none⟩ (.string ⟨#[48]⟩)) := (BL.out.set_name ⟨#[111, 108, 100]⟩).set_ver ⟨#[48]⟩
                have h2 := BH.out.butR (((ButR.refl lb Z1).set 0 (.string ⟨#[111, 108, 100]⟩)).set 2 (.string ⟨#[48]⟩)) NE.out.symm
                have B2 := Lib.hid ((B1.out.setCell (p := ⟨lb, 0, none⟩) LW.out.1 (.string ⟨#[111, 108, 100]⟩)).setCell (p := ⟨lb, 2, none⟩) LW.out.1 (.string ⟨#[48]⟩))
                have BL := Lib.hid b2
                have BH := Lib.hid h2
                clear b2 h2 B1
                generalize (Z1.setCell ⟨lb, 0, none⟩ (.string ⟨#[111, 108, 100]⟩)).setCell ⟨lb, 2, none⟩ (.string ⟨#[48]⟩) = Z2 at *
                as_aux_lemma =>
                  have ha := (Below.refl Z2.heap.size Z2).alloc (Nat.le_refl _) (.cells #[.string ⟨#[111, 108, 100]⟩, .int .u8 1, .int .i64 0, .string ⟨#[49]⟩, .string ⟨#[]⟩] 25)
                  have rr := RdS.lit (X := fun x => x = hb) (enc := encD) (size := 5) (W := Z2) (l := [obD]) (cs := #[.string ⟨#[111, 108, 100]⟩, .int .u8 1, .int .i64 0, .string ⟨#[49]⟩, .string ⟨#[]⟩]) (e := 25) (n := 1) encD_len rfl rfl (by decide) (fun hx => by have := BH.out.2.2; have hx2 : Z2.heap.size = hb := hx; omega)
                  have rk := rr.keep (Kept.set (X := fun x => x = hb) (cb := hb) rfl 9 (.slice (some ⟨Z2.heap.size, 0, none⟩) 1 1))
                  have nb : Box15 hb (highP Z2.heap.size) ((Z2.alloc (.cells #[.string ⟨#[111, 108, 100]⟩, .int .u8 1, .int .i64 0, .string ⟨#[49]⟩, .string ⟨#[]⟩] 25)).setCell ⟨hb, 9, none⟩ (.slice (some ⟨Z2.heap.size, 0, none⟩) 1 1)) := (BH.out.then ha).set_obs (some ⟨Z2.heap.size, 0, none⟩) 1 [obD]
                  have oBL := (BL.out.then ha).butR ((ButR.refl hb _).set 9 (.slice (some ⟨Z2.heap.size, 0, none⟩) 1 1)) NE.out
                  have nB := (B2.out.trans (ha.mono B2.out.size)).setCell (p := ⟨hb, 9, none⟩) LW.out.2 (.slice (some ⟨Z2.heap.size, 0, none⟩) 1 1)
                  have BZ0 := BH.out.2.2
                  rw [set_alloc Z2 (.cells #[.string ⟨#[111, 108, 100]⟩, .int .u8 1, .int .i64 0, .string ⟨#[49]⟩, .string ⟨#[]⟩] 25) ⟨hb, 9, none⟩ (.slice (some ⟨Z2.heap.size, 0, none⟩) 1 1) BZ0] at rk nb nB oBL
                  have RK := Lib.hid rk.rd
                  have NB := Lib.hid nb
                  have NBB := Lib.hid nB
                  have OBL := Lib.hid oBL
                  obtain ⟨⟨bl, c0, c1, c2, c3, c4, c5, c6, c7, c8, c9, c10, c11, c12, c13, c14⟩, bf, bz⟩ := BH.out
                  have ff := bf 9 (by decide)
                  have bn : hb ≠ Z2.heap.size := by omega
                  clear ha rr rk nb nB BZ0 bf oBL
                  go_step
                  go_step
                  go_step
                  go_step
                  go_step
                  go_step
                  go_step
                  go_step
                  refine op_build1D _ _ _ _ _ _ rfl rfl ?_
                  simp only [put_someN, setIfInBounds_toArray, set_cons_zero, set_cons_succ]
                  go_upto_region 68 with fail
                  clear bl bz ff bn c0 c1 c2 c3 c4 c5 c6 c7 c8 c9 c10 c11 c12 c13 c14
                  have BH := NB
                  have B2 := NBB
                  have BL := OBL
                  clear NB NBB OBL
                  generalize (Z2.setCell ⟨hb, 9, none⟩ (.slice (some ⟨Z2.heap.size, 0, none⟩) 1 1)).alloc (.cells #[.string ⟨#[111, 108, 100]⟩, .int .u8 1, .int .i64 0, .string ⟨#[49]⟩, .string ⟨#[]⟩] 25) = Z3 at *
                  have RH := RK
                  generalize Z2.heap.size = ra at *
                  clear RK
                  as_aux_lemma =>
                    obtain ⟨⟨bl, c0, c1, c2, c3, c4, c5, c6, c7, c8, c9, c10, c11, c12, c13, c14⟩, bf, bz⟩ := BL.out
                    go_upto_region 69 with fail
                    clear bl bf bz c0 c1 c2 c3 c4 c5 c6 c7 c8 c9 c10 c11 c12 c13 c14
                    have ha := (Below.refl Z3.heap.size Z3).alloc (Nat.le_refl _) (.cells #[.string lowP.name, .int .i64 lowP.epoch, .string lowP.ver, .string lowP.rel, .int .u8 lowP.arch, .string lowP.vendor, .slice lowP.provA lowP.prov.length lowP.provC, .slice lowP.reqA lowP.req.length lowP.reqC, .slice lowP.conA lowP.con.length lowP.conC, .slice lowP.obsA lowP.obs.length lowP.obsC, .slice lowP.rcmA lowP.rcm.length lowP.rcmC, .slice lowP.supA lowP.sup.length lowP.supC, .slice lowP.sugA lowP.sug.length lowP.sugC, .slice lowP.enhA lowP.enh.length lowP.enhC, .slice lowP.filesA lowP.files.length lowP.filesC] 33)
                    have bo : Box15 Z3.heap.size lowP (Z3.alloc (.cells #[.string lowP.name, .int .i64 lowP.epoch, .string lowP.ver, .string lowP.rel, .int .u8 lowP.arch, .string lowP.vendor, .slice lowP.provA lowP.prov.length lowP.provC, .slice lowP.reqA lowP.req.length lowP.reqC, .slice lowP.conA lowP.con.length lowP.conC, .slice lowP.obsA lowP.obs.length lowP.obsC, .slice lowP.rcmA lowP.rcm.length lowP.rcmC, .slice lowP.supA lowP.sup.length lowP.supC, .slice lowP.sugA lowP.sug.length lowP.sugC, .slice lowP.enhA lowP.enh.length lowP.enhC, .slice lowP.filesA lowP.files.length lowP.filesC] 33)) := ⟨PkAt.new Z3 lowP, fun i hi => by simp [go_sem], by simp⟩
                    have BO := Lib.hid bo
                    have LO := Lib.hid (show w.heap.size ≤ Z3.heap.size from B2.out.size)
                    have RAO := Lib.hid (show ra ≠ Z3.heap.size by have := rd_lt RH.out (by decide); omega)
                    have NO1 := Lib.hid (show lb ≠ Z3.heap.size by have := BL.out.2.2; omega)
                    have NO2 := Lib.hid (show hb ≠ Z3.heap.size by have := BH.out.2.2; omega)
                    have BL := Lib.hid (BL.out.then ha)
                    have BH := Lib.hid (BH.out.then ha)
                    replace RH := Lib.hid ((RH.out.below ha).more ha.size)
                    have B2 := Lib.hid (B2.out.trans (ha.mono B2.out.size))
                    clear ha bo
                    generalize Z3.alloc (.cells #[.string lowP.name, .int .i64 lowP.epoch, .string lowP.ver, .string lowP.rel, .int .u8 lowP.arch, .string lowP.vendor, .slice lowP.provA lowP.prov.length lowP.provC, .slice lowP.reqA lowP.req.length lowP.reqC, .slice lowP.conA lowP.con.length lowP.conC, .slice lowP.obsA lowP.obs.length lowP.obsC, .slice lowP.rcmA lowP.rcm.length lowP.rcmC, .slice lowP.supA lowP.sup.length lowP.supC, .slice lowP.sugA lowP.sug.length lowP.sugC, .slice lowP.enhA lowP.enh.length lowP.enhC, .slice lowP.filesA lowP.files.length lowP.filesC] 33) = Z4 at *
                    generalize Z3.heap.size = ob at *
                    obtain ⟨⟨bl, c0, c1, c2, c3, c4, c5, c6, c7, c8, c9, c10, c11, c12, c13, c14⟩, bf, bz⟩ := BO.out
                    have f2 := bf 2 (by decide)
                    go_upto_region 70 with fail
                    clear bl bf bz f2 c0 c1 c2 c3 c4 c5 c6 c7 c8 c9 c10 c11 c12 c13 c14
                    have bo : Box15 ob othP (Z4.setCell ⟨ob, 2, none⟩ (.string ⟨#[50]⟩)) := BO.out.set_ver ⟨#[50]⟩
                    have bR := (ButR.refl ob Z4).set 2 (.string ⟨#[50]⟩)
                    have BO := Lib.hid bo
                    have BL := Lib.hid (BL.out.butR bR NO1.out)
                    have BH := Lib.hid (BH.out.butR bR NO2.out)
                    replace RH := Lib.hid (rd_setN (o := 2) (v := .string ⟨#[50]⟩) RH.out RAO.out)
                    have B2 := Lib.hid (B2.out.setCell (p := ⟨ob, 2, none⟩) LO.out (.string ⟨#[50]⟩))
                    clear bo bR
                    generalize Z4.setCell ⟨ob, 2, none⟩ (.string ⟨#[50]⟩) = Z5 at *
                    as_aux_lemma =>
                      go_wp2_with fail
                      go_at_call 5
                      refine (one10_any _).mono ?_
                      rintro e Z6 ⟨rfl, h⟩
                      have BL := Lib.hid (BL.out.then h)
                      have BH := Lib.hid (BH.out.then h)
                      have BO := Lib.hid (BO.out.then h)
                      replace RH := Lib.hid ((RH.out.below h).more h.size)
                      have B2 := Lib.hid (B2.out.trans (h.mono B2.out.size))
                      clear h
                      go_upto_region 71 with fail
                      have ha := (Below.refl Z6.heap.size Z6).alloc (Nat.le_refl _) (.cells #[.string ⟨#[97]⟩, .int .i64 0, .string ⟨#[49]⟩, .string ⟨#[49]⟩, .int .u8 1, .string ⟨#[]⟩, .slice none 0 0, .slice none 0 0, .slice none 0 0, .slice none 0 0, .slice none 0 0, .slice none 0 0, .slice none 0 0, .slice none 0 0, .slice none 0 0] 33)
                      have BV := Lib.hid (box_p1 Z6)
                      have LV := Lib.hid (show w.heap.size ≤ Z6.heap.size from B2.out.size)
                      have NV1 := Lib.hid (show lb ≠ Z6.heap.size by have := BL.out.2.2; omega)
                      have NV2 := Lib.hid (show hb ≠ Z6.heap.size by have := BH.out.2.2; omega)
                      have NV3 := Lib.hid (show ob ≠ Z6.heap.size by have := BO.out.2.2; omega)
                      have NV4 := Lib.hid (show ra ≠ Z6.heap.size by have := rd_lt RH.out (by decide); omega)
                      have BL := Lib.hid (BL.out.then ha)
                      have BH := Lib.hid (BH.out.then ha)
                      have BO := Lib.hid (BO.out.then ha)
                      replace RH := Lib.hid ((RH.out.below ha).more ha.size)
                      have B2 := Lib.hid (B2.out.trans (ha.mono B2.out.size))
                      clear ha
                      generalize Z6.alloc (.cells #[.string ⟨#[97]⟩, .int .i64 0, .string ⟨#[49]⟩, .string ⟨#[49]⟩, .int .u8 1, .string ⟨#[]⟩, .slice none 0 0, .slice none 0 0, .slice none 0 0, .slice none 0 0, .slice none 0 0, .slice none 0 0, .slice none 0 0, .slice none 0 0, .slice none 0 0] 33) = Z7 at *
                      generalize Z6.heap.size = vb at *
                      have ha := (Below.refl Z7.heap.size Z7).alloc (Nat.le_refl _) (.cells #[.string ⟨#[111, 108, 100]⟩, .int .u8 2, .int .i64 0, .string ⟨#[48]⟩, .string ⟨#[]⟩] 25)
                      have rr := RdS.lit (X := fun x => x = vb) (enc := encD) (size := 5) (W := Z7) (l := [viD]) (cs := #[.string ⟨#[111, 108, 100]⟩, .int .u8 2, .int .i64 0, .string ⟨#[48]⟩, .string ⟨#[]⟩]) (e := 25) (n := 1) encD_len rfl rfl (by decide) (fun hx => by have := BV.out.2.2; have hx2 : Z7.heap.size = vb := hx; omega)
                      have rk := rr.keep (Kept.set (X := fun x => x = vb) (cb := vb) rfl 6 (.slice (some ⟨Z7.heap.size, 0, none⟩) 1 1))
                      have nb : Box15 vb (viaP Z7.heap.size) ((Z7.alloc (.cells #[.string ⟨#[111, 108, 100]⟩, .int .u8 2, .int .i64 0, .string ⟨#[48]⟩, .string ⟨#[]⟩] 25)).setCell ⟨vb, 6, none⟩ (.slice (some ⟨Z7.heap.size, 0, none⟩) 1 1)) := (BV.out.then ha).set_prov (some ⟨Z7.heap.size, 0, none⟩) 1 [viD]
                      have oBL := (BL.out.then ha).butR ((ButR.refl vb _).set 6 (.slice (some ⟨Z7.heap.size, 0, none⟩) 1 1)) NV1.out
                      have oBH := (BH.out.then ha).butR ((ButR.refl vb _).set 6 (.slice (some ⟨Z7.heap.size, 0, none⟩) 1 1)) NV2.out
                      have oBO := (BO.out.then ha).butR ((ButR.refl vb _).set 6 (.slice (some ⟨Z7.heap.size, 0, none⟩) 1 1)) NV3.out
                      have oRH := rd_setN (b := vb) (o := 6) (v := (.slice (some ⟨Z7.heap.size, 0, none⟩) 1 1)) ((RH.out.below ha).more ha.size) NV4.out
                      have nB := (B2.out.trans (ha.mono B2.out.size)).setCell (p := ⟨vb, 6, none⟩) LV.out (.slice (some ⟨Z7.heap.size, 0, none⟩) 1 1)
                      have BZ0 := BV.out.2.2
                      rw [set_alloc Z7 (.cells #[.string ⟨#[111, 108, 100]⟩, .int .u8 2, .int .i64 0, .string ⟨#[48]⟩, .string ⟨#[]⟩] 25) ⟨vb, 6, none⟩ (.slice (some ⟨Z7.heap.size, 0, none⟩) 1 1) BZ0] at rk nb nB oBL oBH oBO oRH
                      have RK := Lib.hid rk.rd
                      have NB := Lib.hid nb
                      have NBB := Lib.hid nB
                      have OBL := Lib.hid oBL
                      have OBH := Lib.hid oBH
                      have OBO := Lib.hid oBO
                      have ORH := Lib.hid oRH
                      obtain ⟨⟨bl, c0, c1, c2, c3, c4, c5, c6, c7, c8, c9, c10, c11, c12, c13, c14⟩, bf, bz⟩ := BV.out
                      have ff := bf 6 (by decide)
                      have bn : vb ≠ Z7.heap.size := by omega
                      clear ha rr rk nb nB BZ0 bf oBL oBH oBO oRH
                      go_step
                      go_step
                      go_step
                      go_step
                      go_step
                      go_step
                      go_step
                      go_step
                      refine op_build1D _ _ _ _ _ _ rfl rfl ?_
                      simp only [put_someN, setIfInBounds_toArray, set_cons_zero, set_cons_succ]
                      go_upto_region 72 with fail
                      clear bl bz ff bn c0 c1 c2 c3 c4 c5 c6 c7 c8 c9 c10 c11 c12 c13 c14
                      have BV := NB
                      have B2 := NBB
                      have BL := OBL
                      have BH := OBH
                      have BO := OBO
                      have RH := ORH
                      clear NB NBB OBL OBH OBO ORH
                      generalize (Z7.setCell ⟨vb, 6, none⟩ (.slice (some ⟨Z7.heap.size, 0, none⟩) 1 1)).alloc (.cells #[.string ⟨#[111, 108, 100]⟩, .int .u8 2, .int .i64 0, .string ⟨#[48]⟩, .string ⟨#[]⟩] 25) = Z8 at *
                      as_aux_lemma =>
                        have HL8 := Lib.hid (fun W (h : Below Z8.heap.size Z8 W) => high_laid ((RH.out.below h).more h.size))
                        have CL := Lib.hid (fun W (h : Below Z8.heap.size Z8 W) => (BL.out.then h).1.2)
                        have CH := Lib.hid (fun W (h : Below Z8.heap.size Z8 W) => (BH.out.then h).1.2)
                        have CO := Lib.hid (fun W (h : Below Z8.heap.size Z8 W) => (BO.out.then h).1.2)
                        have CV := Lib.hid (fun W (h : Below Z8.heap.size Z8 W) => (BV.out.then h).1.2)
                        have T0 := Lib.hid (Below.refl Z8.heap.size Z8)
                        skip
                        have O1 := Lib.hid (fun W (h : Below Z8.heap.size Z8 W) => (show Calls Tryd.prog 8 #[(highP ra).val, lowP.val] W fun r w' => r = .returned (.bool true) ∧ Below W.heap.size W w' from hl_yes ▸ OBS.out (highP ra) lowP W (HL8.out W h) (high_small ra) low_ok))
                        have O2 := Lib.hid (fun W (h : Below Z8.heap.size Z8 W) => (show Calls Tryd.prog 8 #[(highP ra).val, othP.val] W fun r w' => r = .returned (.bool false) ∧ Below W.heap.size W w' from ho_no ▸ OBS.out (highP ra) othP W (HL8.out W h) (high_small ra) oth_ok))
                        have O3 := Lib.hid (fun W (h : Below Z8.heap.size Z8 W) => (show Calls Tryd.prog 8 #[(highP ra).val, (viaP Z7.heap.size).val] W fun r w' => r = .returned (.bool false) ∧ Below W.heap.size W w' from hv_no ▸ OBS.out (highP ra) (viaP Z7.heap.size) W (HL8.out W h) (high_small ra) p1_evok))
                        have O4 := Lib.hid (fun W (h : Below Z8.heap.size Z8 W) => (show Calls Tryd.prog 8 #[lowP.val, (highP ra).val] W fun r w' => r = .returned (.bool false) ∧ Below W.heap.size W w' from OBS.out lowP (highP ra) W (low_laid W) low_small p1_evok))
                        clear OBS HL8 BL BH BO BV RH
                        generalize highP ra = hp at *
                        generalize viaP Z7.heap.size = vp9 at *
                        generalize lowP = lp at *
                        generalize othP = op9 at *
                        unfold Pk.val at O1 O2 O3 O4
                        obtain ⟨a0, a1, a2, a3, a4, a5, a6, a7, a8, a9, a10, a11, a12, a13, a14⟩ := CH.out _ T0.out
                        obtain ⟨b0, b1, b2, b3, b4, b5, b6, b7, b8, b9, b10, b11, b12, b13, b14⟩ := CL.out _ T0.out
                        go_wp2_with fail
                        go_at_call 8
                        refine (O1.out _ T0.out).mono ?_
                        rintro e Y1 ⟨rfl, h⟩
                        have T0 := Lib.hid (T0.out.trans (h.mono T0.out.size))
                        clear h a0 b0 a1 b1 a2 b2 a3 b3 a4 b4 a5 b5 a6 b6 a7 b7 a8 b8 a9 b9 a10 b10 a11 b11 a12 b12 a13 b13 a14 b14
                        as_aux_lemma =>
                          obtain ⟨a0, a1, a2, a3, a4, a5, a6, a7, a8, a9, a10, a11, a12, a13, a14⟩ := CH.out _ T0.out
                          obtain ⟨b0, b1, b2, b3, b4, b5, b6, b7, b8, b9, b10, b11, b12, b13, b14⟩ := CO.out _ T0.out
                          go_wp2_with fail
                          go_at_call 8
                          refine (O2.out _ T0.out).mono ?_
                          rintro e Y2 ⟨rfl, h⟩
                          have T0 := Lib.hid (T0.out.trans (h.mono T0.out.size))
                          clear h a0 b0 a1 b1 a2 b2 a3 b3 a4 b4 a5 b5 a6 b6 a7 b7 a8 b8 a9 b9 a10 b10 a11 b11 a12 b12 a13 b13 a14 b14
                          as_aux_lemma =>
                            obtain ⟨a0, a1, a2, a3, a4, a5, a6, a7, a8, a9, a10, a11, a12, a13, a14⟩ := CH.out _ T0.out
                            obtain ⟨b0, b1, b2, b3, b4, b5, b6, b7, b8, b9, b10, b11, b12, b13, b14⟩ := CV.out _ T0.out
                            go_wp2_with fail
                            go_at_call 8
                            refine (O3.out _ T0.out).mono ?_
                            rintro e Y3 ⟨rfl, h⟩
                            have T0 := Lib.hid (T0.out.trans (h.mono T0.out.size))
                            clear h a0 b0 a1 b1 a2 b2 a3 b3 a4 b4 a5 b5 a6 b6 a7 b7 a8 b8 a9 b9 a10 b10 a11 b11 a12 b12 a13 b13 a14 b14
                            as_aux_lemma =>
                              obtain ⟨a0, a1, a2, a3, a4, a5, a6, a7, a8, a9, a10, a11, a12, a13, a14⟩ := CL.out _ T0.out
                              obtain ⟨b0, b1, b2, b3, b4, b5, b6, b7, b8, b9, b10, b11, b12, b13, b14⟩ := CH.out _ T0.out
                              go_wp2_with fail
                              go_at_call 8
                              refine (O4.out _ T0.out).mono ?_
                              rintro e Y4 ⟨rfl, h⟩
                              have T0 := Lib.hid (T0.out.trans (h.mono T0.out.size))
                              clear h a0 b0 a1 b1 a2 b2 a3 b3 a4 b4 a5 b5 a6 b6 a7 b7 a8 b8 a9 b9 a10 b10 a11 b11 a12 b12 a13 b13 a14 b14
                              as_aux_lemma =>
                                go_wp2_with fail
                                go_at_call 9
                                have BF := Lib.hid (B2.out.trans (T0.out.mono B2.out.size))
                                refine (AWK.out _ BF.out).mono ?_
                                rintro e Y5 ⟨rfl, h⟩
                                have BE := BF.out.trans (h.mono BF.out.size)
                                go_wp2_with fail
                                go_ret
                                exact ⟨rfl, BE⟩
end Go.Proofs.YtcpjignlhlcnpaaDoor
