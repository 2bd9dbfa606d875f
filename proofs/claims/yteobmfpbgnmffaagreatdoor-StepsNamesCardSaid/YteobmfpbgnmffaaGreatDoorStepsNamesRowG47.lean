/- StNm -/
import Derived.Test.YteobmfpbgnmffaaGreatDoorStepsNamesRowG41
import Derived.Test.YteobmfpbgnmffaaGreatDoorStepsNamesRowG44
import Derived.Test.YteobmfpbgnmffaaGreatDoorStepsNamesRowG46
import Derived.Test.YteobmfpbgnmffaaGreatDoorStepsNamesRowG45
set_option linter.unusedSimpArgs false
set_option linter.unusedVariables false
open List (getElem?_toArray getElem?_cons_zero getElem?_cons_succ setIfInBounds_toArray set_cons_zero set_cons_succ take_succ_cons take_zero)
/- Walk: StepsNames. -/




namespace Go.Proofs.YteobmfpbgnmffaaGreatDoor
open Go.RowKit Go.Shelf
set_option linter.unusedVariables false

theorem nm_len : ∀ x ∈ nmStates, x.1.length ≤ 10 ∧ x.2.length ≤ 10 := by decide +kernel
theorem nm_blen : ∀ x ∈ nmBad, x.length ≤ 10 := by decide +kernel
theorem pkE30_laid {A : Option Addr} {W : World} (h : Rd encD 5 W.heap.size A 1 [(⟨[100], 0, ⟨0, [], []⟩⟩ : Dp)] W) : (pkE30 A 1).Laid W.heap.size W := { ar := rfl, ep := rfl, n0 := by show (⟨#[101]⟩ : ByteArray).size ≤ maxLen; decide, n1 := by show (⟨#[49]⟩ : ByteArray).size ≤ maxLen; decide, n2 := by show (⟨#[49]⟩ : ByteArray).size ≤ maxLen; decide, n3 := by show (⟨#[]⟩ : ByteArray).size ≤ maxLen; decide, prov := Rd.nil_ (Nat.zero_le _), provW := (fun d hd => by cases hd), obs := h, obsW := (fun d hd => by obtain rfl := List.mem_singleton.1 hd; exact ⟨by decide, by decide, by decide, by decide, by decide⟩), files := Rd.nil_ (Nat.zero_le _), filesW := (fun d hd => by cases hd), req := nil_rrow30 _ _, con := nil_rrow30 _ _, rcm := nil_rrow30 _ _, sup := nil_rrow30 _ _, sug := nil_rrow30 _ _, enh := nil_rrow30 _ _ }
theorem nmIns_laid {W : World} : ∀ x ∈ nmIns, x.Laid W.heap.size W := by
  intro x hx
  simp only [nmIns, List.mem_cons, List.not_mem_nil, or_false] at hx
  rcases hx with rfl | rfl | rfl | rfl | rfl
  all_goals exact pk30_laid _ _ (by decide) (by decide) _
theorem nmRep_laid {A : Option Addr} {W : World} (h : (pkE30 A 1).Laid W.heap.size W) : ∀ x ∈ nmRep A 1, x.Laid W.heap.size W := by
  intro x hx
  simp only [nmRep, List.mem_cons, List.not_mem_nil, or_false] at hx
  rcases hx with rfl | rfl | rfl | rfl | rfl | rfl
  any_goals exact h
  all_goals exact pk30_laid _ _ (by decide) (by decide) _
def nmP7 (g : Nat) (i : Nat) (v : Value) (W : World) : Prop := match i with
  | 0 => v = .agg #[.string ⟨#[97]⟩, .int .i64 0, .string ⟨#[50]⟩, .string ⟨#[49]⟩, .int .u8 1, .string ⟨#[]⟩, .slice none 0 0, .slice none 0 0, .slice none 0 0, .slice none 0 0, .slice none 0 0, .slice none 0 0, .slice none 0 0, .slice none 0 0, .slice none 0 0]
  | 1 => v = .agg #[.string ⟨#[97]⟩, .int .i64 0, .string ⟨#[49]⟩, .string ⟨#[49]⟩, .int .u8 1, .string ⟨#[]⟩, .slice none 0 0, .slice none 0 0, .slice none 0 0, .slice none 0 0, .slice none 0 0, .slice none 0 0, .slice none 0 0, .slice none 0 0, .slice none 0 0]
  | 2 => v = .agg #[.string ⟨#[97]⟩, .int .i64 0, .string ⟨#[51]⟩, .string ⟨#[49]⟩, .int .u8 1, .string ⟨#[]⟩, .slice none 0 0, .slice none 0 0, .slice none 0 0, .slice none 0 0, .slice none 0 0, .slice none 0 0, .slice none 0 0, .slice none 0 0, .slice none 0 0]
  | 3 => v = .agg #[.string ⟨#[101]⟩, .int .i64 0, .string ⟨#[49]⟩, .string ⟨#[49]⟩, .int .u8 1, .string ⟨#[]⟩, .slice none 0 0, .slice none 0 0, .slice none 0 0, .slice (some ⟨g, 0, none⟩) 1 1, .slice none 0 0, .slice none 0 0, .slice none 0 0, .slice none 0 0, .slice none 0 0]
  | 4 => v = .agg #[.string ⟨#[99]⟩, .int .i64 0, .string ⟨#[49]⟩, .string ⟨#[49]⟩, .int .u8 1, .string ⟨#[]⟩, .slice none 0 0, .slice none 0 0, .slice none 0 0, .slice none 0 0, .slice none 0 0, .slice none 0 0, .slice none 0 0, .slice none 0 0, .slice none 0 0]
  | 5 => v = .agg #[.string ⟨#[102]⟩, .int .i64 0, .string ⟨#[49]⟩, .string ⟨#[49]⟩, .int .u8 1, .string ⟨#[]⟩, .slice none 0 0, .slice none 0 0, .slice none 0 0, .slice none 0 0, .slice none 0 0, .slice none 0 0, .slice none 0 0, .slice none 0 0, .slice none 0 0]
  | 6 => ∃ rb, v = .slice (some ⟨rb, 0, none⟩) 6 6 ∧ PRow W.heap.size W (some ⟨rb, 0, none⟩) 6 (nmRep (some ⟨g, 0, none⟩) 1)
  | 7 => ∃ rb, v = .agg #[.int .i64 0, .slice (some ⟨rb, 0, none⟩) 6 6] ∧ PRow W.heap.size W (some ⟨rb, 0, none⟩) 6 (nmRep (some ⟨g, 0, none⟩) 1)
  | 8 => ∃ tb rb, v = .slice (some ⟨tb, 0, none⟩) 1 1 ∧ RpRow W.heap.size W (some ⟨tb, 0, none⟩) 1 [⟨0, some ⟨rb, 0, none⟩, 6, nmRep (some ⟨g, 0, none⟩) 1⟩]
  | 9 => v = .agg #[.string ⟨#[97]⟩, .int .i64 0, .string ⟨#[49]⟩, .string ⟨#[49]⟩, .int .u8 1, .string ⟨#[]⟩, .slice none 0 0, .slice none 0 0, .slice none 0 0, .slice none 0 0, .slice none 0 0, .slice none 0 0, .slice none 0 0, .slice none 0 0, .slice none 0 0]
  | 10 => v = .agg #[.string ⟨#[97]⟩, .int .i64 0, .string ⟨#[50]⟩, .string ⟨#[49]⟩, .int .u8 1, .string ⟨#[]⟩, .slice none 0 0, .slice none 0 0, .slice none 0 0, .slice none 0 0, .slice none 0 0, .slice none 0 0, .slice none 0 0, .slice none 0 0, .slice none 0 0]
  | 11 => v = .agg #[.string ⟨#[98]⟩, .int .i64 0, .string ⟨#[49]⟩, .string ⟨#[49]⟩, .int .u8 1, .string ⟨#[]⟩, .slice none 0 0, .slice none 0 0, .slice none 0 0, .slice none 0 0, .slice none 0 0, .slice none 0 0, .slice none 0 0, .slice none 0 0, .slice none 0 0]
  | 12 => v = .agg #[.string ⟨#[99]⟩, .int .i64 0, .string ⟨#[49]⟩, .string ⟨#[49]⟩, .int .u8 1, .string ⟨#[]⟩, .slice none 0 0, .slice none 0 0, .slice none 0 0, .slice none 0 0, .slice none 0 0, .slice none 0 0, .slice none 0 0, .slice none 0 0, .slice none 0 0]
  | 13 => v = .agg #[.string ⟨#[100]⟩, .int .i64 0, .string ⟨#[49]⟩, .string ⟨#[49]⟩, .int .u8 1, .string ⟨#[]⟩, .slice none 0 0, .slice none 0 0, .slice none 0 0, .slice none 0 0, .slice none 0 0, .slice none 0 0, .slice none 0 0, .slice none 0 0, .slice none 0 0]
  | 14 => ∃ ib, v = .slice (some ⟨ib, 0, none⟩) 5 5 ∧ PRow W.heap.size W (some ⟨ib, 0, none⟩) 5 nmIns
  | 15 => ∃ P L, v = .tuple #[.pointer (some ⟨P, 0, none⟩), .int .i64 0] ∧ Pool P 5 L W ∧ AllAlike (nm30 (some ⟨g, 0, none⟩) 1) L
  | 16 => ∃ P L, v = .tuple #[.pointer (some ⟨P, 0, none⟩), .int .i64 0] ∧ Pool P 5 L W ∧ AllAlike (nm30 (some ⟨g, 0, none⟩) 1) L
  | 17 => ∃ P L, v = .pointer (some ⟨P, 0, none⟩) ∧ Pool P 5 L W ∧ AllAlike (nm30 (some ⟨g, 0, none⟩) 1) L
  | 18 => v = .int .i64 0
  | 19 => ∃ P L, v = .pointer (some ⟨P, 0, none⟩) ∧ Pool P 5 L W ∧ AllAlike (nm30 (some ⟨g, 0, none⟩) 1) L
  | _ => False
theorem nmP7_mono (g : Nat) : ∀ i v w w', nmP7 g i v w → Below w.heap.size w w' → nmP7 g i v w' := by
  intro i v w w' h hb
  match i, h with
  | 0, h => exact h
  | 1, h => exact h
  | 2, h => exact h
  | 3, h => exact h
  | 4, h => exact h
  | 5, h => exact h
  | 6, h => exact h.elim fun rb h => ⟨rb, h.1, h.2.calls hb⟩
  | 7, h => exact h.elim fun rb h => ⟨rb, h.1, h.2.calls hb⟩
  | 8, h => exact h.elim fun tb h => h.elim fun rb h => ⟨tb, rb, h.1, h.2.calls hb⟩
  | 9, h => exact h
  | 10, h => exact h
  | 11, h => exact h
  | 12, h => exact h
  | 13, h => exact h
  | 14, h => exact h.elim fun rb h => ⟨rb, h.1, h.2.calls hb⟩
  | 15, h => exact h.elim fun P h => h.elim fun L h => ⟨P, L, h.1, h.2.1.then hb, h.2.2⟩
  | 16, h => exact h.elim fun P h => h.elim fun L h => ⟨P, L, h.1, h.2.1.then hb, h.2.2⟩
  | 17, h => exact h.elim fun P h => h.elim fun L h => ⟨P, L, h.1, h.2.1.then hb, h.2.2⟩
  | 18, h => exact h
  | 19, h => exact h.elim fun P h => h.elim fun L h => ⟨P, L, h.1, h.2.1.then hb, h.2.2⟩
  | (i + 20), h => exact h.elim
set_option maxRecDepth 100000 in
set_option maxHeartbeats 16000000 in
theorem stepsNames_row (w : World) (hI : PkIn w) : Calls Tryz.prog 5 #[] w fun e w' => e = .returned (.bool true) ∧ Below w.heap.size w w' := by
  have HI := Lib.hid hI
  clear hI
  have NM := Lib.hid (fun n v W => named30_any n v W)
  go_enter Tryz.func5, Tryz.ntmps5
  go_wp2_with fail
  go_at_call 25
  refine (stof_nil _).mono ?_
  rintro e wa ⟨rfl, ha⟩
  go_wp2_with fail
  go_at_call 27
  refine (stapply_nil _).mono ?_
  rintro e wb ⟨rfl, hb⟩
  have B0 := Lib.hid (ha.trans (hb.mono ha.size))
  clear ha hb
  go_wp2_with fail
  go_at_call 35
  refine (NM.out _ _ _).mono ?_
  rintro e w1 ⟨rfl, hb1⟩
  have B1 := Lib.hid (B0.out.trans (hb1.mono B0.out.size))
  clear hb1 B0
  go_wp2_with fail
  obtain ⟨V, hV⟩ : ∃ V, V = (w1.alloc (.cells #[.string ⟨#[101]⟩, .int .i64 0, .string ⟨#[49]⟩, .string ⟨#[49]⟩, .int .u8 1, .string ⟨#[]⟩, .slice none 0 0, .slice none 0 0, .slice none 0 0, .slice (some ⟨w1.heap.size + 1, 0, none⟩) 1 1, .slice none 0 0, .slice none 0 0, .slice none 0 0, .slice none 0 0, .slice none 0 0] 28)).alloc (.cells #[.string ⟨#[100]⟩, .int .u8 0, .int .i64 0, .string ⟨#[]⟩, .string ⟨#[]⟩] 37) := ⟨_, rfl⟩
  rw [← hV]
  have BV := Lib.hid (show Below w.heap.size w V by rw [hV]; exact (B1.out.alloc B1.out.size _).alloc (by have := B1.out.size; simp; omega) _)
  have PA := Lib.hid (show PkAt V w1.heap.size (pkE30 (some ⟨w1.heap.size + 1, 0, none⟩) 1) by rw [hV]; exact (PkAt.new w1 (pkE30 (some ⟨w1.heap.size + 1, 0, none⟩) 1)).calls ((Below.refl _ _).alloc (Nat.le_refl _) _))
  have LB := Lib.hid (show (pkE30 (some ⟨w1.heap.size + 1, 0, none⟩) 1).Laid V.heap.size V from pkE30_laid (by rw [hV]; have h := rd_made (enc := encD) (size := 5) (fun _ => rfl) [(⟨[100], 0, ⟨0, [], []⟩⟩ : Dp)] (w1.alloc (.cells #[.string ⟨#[101]⟩, .int .i64 0, .string ⟨#[49]⟩, .string ⟨#[49]⟩, .int .u8 1, .string ⟨#[]⟩, .slice none 0 0, .slice none 0 0, .slice none 0 0, .slice (some ⟨w1.heap.size + 1, 0, none⟩) 1 1, .slice none 0 0, .slice none 0 0, .slice none 0 0, .slice none 0 0, .slice none 0 0] 28)) 37 (by decide); rw [show (w1.alloc (.cells #[.string ⟨#[101]⟩, .int .i64 0, .string ⟨#[49]⟩, .string ⟨#[49]⟩, .int .u8 1, .string ⟨#[]⟩, .slice none 0 0, .slice none 0 0, .slice none 0 0, .slice (some ⟨w1.heap.size + 1, 0, none⟩) 1 1, .slice none 0 0, .slice none 0 0, .slice none 0 0, .slice none 0 0, .slice none 0 0] 28)).heap.size = w1.heap.size + 1 by simp] at h; exact h))
  clear hV
  generalize w1.heap.size + 1 = g at *
  generalize w1.heap.size = bb at *
  refine wp_region_tail (PP := nmP7 g) 20 rfl (by kernel_rfl) (by kernel_rfl) (by decide) (by decide) (nmP7_mono g) (fun _ => undef) (by simp [fillV, put_someT, setIfInBounds_toArray, set_cons_zero, set_cons_succ]) ?_ ?_
  · intro i o vs W hi ho he hBW K hK
    simp only [take_succ_cons, take_zero, fillV, put_someT, setIfInBounds_toArray, set_cons_zero, set_cons_succ] at hK ⊢
    have PAW := Lib.hid (PA.out.calls hBW)
    have LBW := Lib.hid ((LB.out.below hBW).more hBW.size)
    have BWW := Lib.hid (BV.out.trans (hBW.mono BV.out.size))
    obtain rfl | rfl | rfl | rfl | rfl | rfl | rfl | rfl | rfl | rfl | rfl | rfl | rfl | rfl | rfl | rfl | rfl | rfl | rfl | rfl := (show i = 0 ∨ i = 1 ∨ i = 2 ∨ i = 3 ∨ i = 4 ∨ i = 5 ∨ i = 6 ∨ i = 7 ∨ i = 8 ∨ i = 9 ∨ i = 10 ∨ i = 11 ∨ i = 12 ∨ i = 13 ∨ i = 14 ∨ i = 15 ∨ i = 16 ∨ i = 17 ∨ i = 18 ∨ i = 19 by exact (by have : i < 20 := hi; omega))
    · simp only [getElem?_toArray, getElem?_cons_zero, getElem?_cons_succ, Option.some.injEq] at ho
      subst ho
      rw [if_pos (by rfl)]
      simp only [put_someT, setIfInBounds_toArray, set_cons_zero, set_cons_succ] at hK
      have HK := Lib.hid hK
      clear hK he hi hBW
      go_simp
      go_at_call 35
      refine (NM.out _ _ _).mono ?_
      rintro en w9 ⟨rfl, h⟩
      go_simp
      exact HK.out _ _ rfl h
    · simp only [getElem?_toArray, getElem?_cons_zero, getElem?_cons_succ, Option.some.injEq] at ho
      subst ho
      rw [if_pos (by rfl)]
      simp only [put_someT, setIfInBounds_toArray, set_cons_zero, set_cons_succ] at hK
      have HK := Lib.hid hK
      clear hK he hi hBW
      go_simp
      go_at_call 35
      refine (NM.out _ _ _).mono ?_
      rintro en w9 ⟨rfl, h⟩
      go_simp
      exact HK.out _ _ rfl h
    · simp only [getElem?_toArray, getElem?_cons_zero, getElem?_cons_succ, Option.some.injEq] at ho
      subst ho
      rw [if_pos (by rfl)]
      simp only [put_someT, setIfInBounds_toArray, set_cons_zero, set_cons_succ] at hK
      have HK := Lib.hid hK
      clear hK he hi hBW
      go_simp
      go_at_call 35
      refine (NM.out _ _ _).mono ?_
      rintro en w9 ⟨rfl, h⟩
      go_simp
      exact HK.out _ _ rfl h
    · simp only [getElem?_toArray, getElem?_cons_zero, getElem?_cons_succ, Option.some.injEq] at ho
      subst ho
      rw [if_pos (by rfl)]
      simp only [put_someT, setIfInBounds_toArray, set_cons_zero, set_cons_succ] at hK
      have HK := Lib.hid hK
      clear hK he hi hBW
      obtain ⟨hl, c0, c1, c2, c3, c4, c5, c6, c7, c8, c9, c10, c11, c12, c13, c14⟩ := PAW.out
      simp only [pkE30, pk30, List.length_nil, List.length_cons] at c0 c1 c2 c3 c4 c5 c6 c7 c8 c9 c10 c11 c12 c13 c14
      go_simp
      exact HK.out _ _ rfl (Below.refl _ _)
    · simp only [getElem?_toArray, getElem?_cons_zero, getElem?_cons_succ, Option.some.injEq] at ho
      subst ho
      rw [if_pos (by rfl)]
      simp only [put_someT, setIfInBounds_toArray, set_cons_zero, set_cons_succ] at hK
      have HK := Lib.hid hK
      clear hK he hi hBW
      go_simp
      go_at_call 35
      refine (NM.out _ _ _).mono ?_
      rintro en w9 ⟨rfl, h⟩
      go_simp
      exact HK.out _ _ rfl h
    · simp only [getElem?_toArray, getElem?_cons_zero, getElem?_cons_succ, Option.some.injEq] at ho
      subst ho
      rw [if_pos (by rfl)]
      simp only [put_someT, setIfInBounds_toArray, set_cons_zero, set_cons_succ] at hK
      have HK := Lib.hid hK
      clear hK he hi hBW
      go_simp
      go_at_call 35
      refine (NM.out _ _ _).mono ?_
      rintro en w9 ⟨rfl, h⟩
      go_simp
      exact HK.out _ _ rfl h
    · simp only [getElem?_toArray, getElem?_cons_zero, getElem?_cons_succ, Option.some.injEq] at ho
      subst ho
      have e0 : vs 0 = .agg #[.string ⟨#[97]⟩, .int .i64 0, .string ⟨#[50]⟩, .string ⟨#[49]⟩, .int .u8 1, .string ⟨#[]⟩, .slice none 0 0, .slice none 0 0, .slice none 0 0, .slice none 0 0, .slice none 0 0, .slice none 0 0, .slice none 0 0, .slice none 0 0, .slice none 0 0] := (he ⟨0, .data⟩ (by simp) rfl : nmP7 g 0 (vs 0) W)
      rw [e0] at hK ⊢
      have e1 : vs 1 = .agg #[.string ⟨#[97]⟩, .int .i64 0, .string ⟨#[49]⟩, .string ⟨#[49]⟩, .int .u8 1, .string ⟨#[]⟩, .slice none 0 0, .slice none 0 0, .slice none 0 0, .slice none 0 0, .slice none 0 0, .slice none 0 0, .slice none 0 0, .slice none 0 0, .slice none 0 0] := (he ⟨1, .data⟩ (by simp) rfl : nmP7 g 1 (vs 1) W)
      rw [e1] at hK ⊢
      have e2 : vs 2 = .agg #[.string ⟨#[97]⟩, .int .i64 0, .string ⟨#[51]⟩, .string ⟨#[49]⟩, .int .u8 1, .string ⟨#[]⟩, .slice none 0 0, .slice none 0 0, .slice none 0 0, .slice none 0 0, .slice none 0 0, .slice none 0 0, .slice none 0 0, .slice none 0 0, .slice none 0 0] := (he ⟨2, .data⟩ (by simp) rfl : nmP7 g 2 (vs 2) W)
      rw [e2] at hK ⊢
      have e3 : vs 3 = .agg #[.string ⟨#[101]⟩, .int .i64 0, .string ⟨#[49]⟩, .string ⟨#[49]⟩, .int .u8 1, .string ⟨#[]⟩, .slice none 0 0, .slice none 0 0, .slice none 0 0, .slice (some ⟨g, 0, none⟩) 1 1, .slice none 0 0, .slice none 0 0, .slice none 0 0, .slice none 0 0, .slice none 0 0] := (he ⟨3, .data⟩ (by simp) rfl : nmP7 g 3 (vs 3) W)
      rw [e3] at hK ⊢
      have e4 : vs 4 = .agg #[.string ⟨#[99]⟩, .int .i64 0, .string ⟨#[49]⟩, .string ⟨#[49]⟩, .int .u8 1, .string ⟨#[]⟩, .slice none 0 0, .slice none 0 0, .slice none 0 0, .slice none 0 0, .slice none 0 0, .slice none 0 0, .slice none 0 0, .slice none 0 0, .slice none 0 0] := (he ⟨4, .data⟩ (by simp) rfl : nmP7 g 4 (vs 4) W)
      rw [e4] at hK ⊢
      have e5 : vs 5 = .agg #[.string ⟨#[102]⟩, .int .i64 0, .string ⟨#[49]⟩, .string ⟨#[49]⟩, .int .u8 1, .string ⟨#[]⟩, .slice none 0 0, .slice none 0 0, .slice none 0 0, .slice none 0 0, .slice none 0 0, .slice none 0 0, .slice none 0 0, .slice none 0 0, .slice none 0 0] := (he ⟨5, .data⟩ (by simp) rfl : nmP7 g 5 (vs 5) W)
      rw [e5] at hK ⊢
      rw [if_pos (by rfl)]
      simp only [put_someT, setIfInBounds_toArray, set_cons_zero, set_cons_succ] at hK
      have HK := Lib.hid hK
      clear hK he hi hBW
      have PM := Lib.hid (prow_made (nmRep (some ⟨g, 0, none⟩) 1) W 28 (Nat.le_of_ble_eq_true rfl) (nmRep_laid LBW.out))
      go_simp
      exact HK.out _ _ ⟨W.heap.size, rfl, PM.out⟩ ((Below.refl _ W).alloc (Nat.le_refl _) _)
    · simp only [getElem?_toArray, getElem?_cons_zero, getElem?_cons_succ, Option.some.injEq] at ho
      subst ho
      obtain ⟨rb, e6, hr6⟩ := (he ⟨6, .data⟩ (by simp) rfl : nmP7 g 6 (vs 6) W)
      rw [e6] at hK ⊢
      rw [if_pos (by rfl)]
      simp only [put_someT, setIfInBounds_toArray, set_cons_zero, set_cons_succ] at hK
      have HK := Lib.hid hK
      clear hK he hi hBW
      go_simp
      exact HK.out _ _ ⟨rb, rfl, hr6⟩ (Below.refl _ _)
    · simp only [getElem?_toArray, getElem?_cons_zero, getElem?_cons_succ, Option.some.injEq] at ho
      subst ho
      obtain ⟨rb, e7, hr7⟩ := (he ⟨7, .data⟩ (by simp) rfl : nmP7 g 7 (vs 7) W)
      rw [e7] at hK ⊢
      rw [if_pos (by rfl)]
      simp only [put_someT, setIfInBounds_toArray, set_cons_zero, set_cons_succ] at hK
      have HK := Lib.hid hK
      clear hK he hi hBW
      have PM := Lib.hid (rprow_made ⟨0, some ⟨rb, 0, none⟩, 6, nmRep (some ⟨g, 0, none⟩) 1⟩ W 66 hr7 (by show (Lit.int .i64 0).wf = true; decide) (by show 6 ≤ 1000000000000000; decide))
      clear hr7
      go_simp
      exact HK.out _ _ ⟨W.heap.size, rb, rfl, PM.out⟩ ((Below.refl _ W).alloc (Nat.le_refl _) _)
    · simp only [getElem?_toArray, getElem?_cons_zero, getElem?_cons_succ, Option.some.injEq] at ho
      subst ho
      rw [if_pos (by rfl)]
      simp only [put_someT, setIfInBounds_toArray, set_cons_zero, set_cons_succ] at hK
      have HK := Lib.hid hK
      clear hK he hi hBW
      go_simp
      go_at_call 35
      refine (NM.out _ _ _).mono ?_
      rintro en w9 ⟨rfl, h⟩
      go_simp
      exact HK.out _ _ rfl h
    · simp only [getElem?_toArray, getElem?_cons_zero, getElem?_cons_succ, Option.some.injEq] at ho
      subst ho
      rw [if_pos (by rfl)]
      simp only [put_someT, setIfInBounds_toArray, set_cons_zero, set_cons_succ] at hK
      have HK := Lib.hid hK
      clear hK he hi hBW
      go_simp
      go_at_call 35
      refine (NM.out _ _ _).mono ?_
      rintro en w9 ⟨rfl, h⟩
      go_simp
      exact HK.out _ _ rfl h
    · simp only [getElem?_toArray, getElem?_cons_zero, getElem?_cons_succ, Option.some.injEq] at ho
      subst ho
      rw [if_pos (by rfl)]
      simp only [put_someT, setIfInBounds_toArray, set_cons_zero, set_cons_succ] at hK
      have HK := Lib.hid hK
      clear hK he hi hBW
      go_simp
      go_at_call 35
      refine (NM.out _ _ _).mono ?_
      rintro en w9 ⟨rfl, h⟩
      go_simp
      exact HK.out _ _ rfl h
    · simp only [getElem?_toArray, getElem?_cons_zero, getElem?_cons_succ, Option.some.injEq] at ho
      subst ho
      rw [if_pos (by rfl)]
      simp only [put_someT, setIfInBounds_toArray, set_cons_zero, set_cons_succ] at hK
      have HK := Lib.hid hK
      clear hK he hi hBW
      go_simp
      go_at_call 35
      refine (NM.out _ _ _).mono ?_
      rintro en w9 ⟨rfl, h⟩
      go_simp
      exact HK.out _ _ rfl h
    · simp only [getElem?_toArray, getElem?_cons_zero, getElem?_cons_succ, Option.some.injEq] at ho
      subst ho
      rw [if_pos (by rfl)]
      simp only [put_someT, setIfInBounds_toArray, set_cons_zero, set_cons_succ] at hK
      have HK := Lib.hid hK
      clear hK he hi hBW
      go_simp
      go_at_call 35
      refine (NM.out _ _ _).mono ?_
      rintro en w9 ⟨rfl, h⟩
      go_simp
      exact HK.out _ _ rfl h
    · simp only [getElem?_toArray, getElem?_cons_zero, getElem?_cons_succ, Option.some.injEq] at ho
      subst ho
      have e9 : vs 9 = .agg #[.string ⟨#[97]⟩, .int .i64 0, .string ⟨#[49]⟩, .string ⟨#[49]⟩, .int .u8 1, .string ⟨#[]⟩, .slice none 0 0, .slice none 0 0, .slice none 0 0, .slice none 0 0, .slice none 0 0, .slice none 0 0, .slice none 0 0, .slice none 0 0, .slice none 0 0] := (he ⟨9, .data⟩ (by simp) rfl : nmP7 g 9 (vs 9) W)
      rw [e9] at hK ⊢
      have e10 : vs 10 = .agg #[.string ⟨#[97]⟩, .int .i64 0, .string ⟨#[50]⟩, .string ⟨#[49]⟩, .int .u8 1, .string ⟨#[]⟩, .slice none 0 0, .slice none 0 0, .slice none 0 0, .slice none 0 0, .slice none 0 0, .slice none 0 0, .slice none 0 0, .slice none 0 0, .slice none 0 0] := (he ⟨10, .data⟩ (by simp) rfl : nmP7 g 10 (vs 10) W)
      rw [e10] at hK ⊢
      have e11 : vs 11 = .agg #[.string ⟨#[98]⟩, .int .i64 0, .string ⟨#[49]⟩, .string ⟨#[49]⟩, .int .u8 1, .string ⟨#[]⟩, .slice none 0 0, .slice none 0 0, .slice none 0 0, .slice none 0 0, .slice none 0 0, .slice none 0 0, .slice none 0 0, .slice none 0 0, .slice none 0 0] := (he ⟨11, .data⟩ (by simp) rfl : nmP7 g 11 (vs 11) W)
      rw [e11] at hK ⊢
      have e12 : vs 12 = .agg #[.string ⟨#[99]⟩, .int .i64 0, .string ⟨#[49]⟩, .string ⟨#[49]⟩, .int .u8 1, .string ⟨#[]⟩, .slice none 0 0, .slice none 0 0, .slice none 0 0, .slice none 0 0, .slice none 0 0, .slice none 0 0, .slice none 0 0, .slice none 0 0, .slice none 0 0] := (he ⟨12, .data⟩ (by simp) rfl : nmP7 g 12 (vs 12) W)
      rw [e12] at hK ⊢
      have e13 : vs 13 = .agg #[.string ⟨#[100]⟩, .int .i64 0, .string ⟨#[49]⟩, .string ⟨#[49]⟩, .int .u8 1, .string ⟨#[]⟩, .slice none 0 0, .slice none 0 0, .slice none 0 0, .slice none 0 0, .slice none 0 0, .slice none 0 0, .slice none 0 0, .slice none 0 0, .slice none 0 0] := (he ⟨13, .data⟩ (by simp) rfl : nmP7 g 13 (vs 13) W)
      rw [e13] at hK ⊢
      rw [if_pos (by rfl)]
      simp only [put_someT, setIfInBounds_toArray, set_cons_zero, set_cons_succ] at hK
      have HK := Lib.hid hK
      clear hK he hi hBW
      have PM := Lib.hid (prow_made nmIns W 28 (Nat.le_of_ble_eq_true rfl) nmIns_laid)
      go_simp
      exact HK.out _ _ ⟨W.heap.size, rfl, PM.out⟩ ((Below.refl _ W).alloc (Nat.le_refl _) _)
    · simp only [getElem?_toArray, getElem?_cons_zero, getElem?_cons_succ, Option.some.injEq] at ho
      subst ho
      obtain ⟨tb, rb, e8, hr8⟩ := (he ⟨8, .data⟩ (by simp) rfl : nmP7 g 8 (vs 8) W)
      rw [e8] at hK ⊢
      obtain ⟨ib, e14, hi14⟩ := (he ⟨14, .data⟩ (by simp) rfl : nmP7 g 14 (vs 14) W)
      rw [e14] at hK ⊢
      rw [if_pos (by rfl)]
      simp only [put_someT, setIfInBounds_toArray, set_cons_zero, set_cons_succ] at hK
      have HK := Lib.hid hK
      clear hK he hi hBW
      have NW := Lib.hid (poolnew_any (some ⟨tb, 0, none⟩) 1 [⟨0, some ⟨rb, 0, none⟩, 6, nmRep (some ⟨g, 0, none⟩) 1⟩] (some ⟨ib, 0, none⟩) 5 nmIns W (HI.out.below BWW.out) hr8 hi14 nm_deep (by simp [pksOf, nmRep, nmIns]) (by simp))
      clear hr8 hi14
      go_simp
      go_at_call 23
      refine NW.out.mono ?_
      rintro en w9 ⟨h1, _, hb⟩
      obtain ⟨P, L, rfl, hat, hal⟩ := h1 (nm_err _ _ _ _)
      have PO := Pool.of hat hal (nm_err _ _ _ _) (fun x hx => (nm_deep x hx).2)
      go_simp
      exact HK.out _ _ ⟨P, L, rfl, PO, hal⟩ hb
    · simp only [getElem?_toArray, getElem?_cons_zero, getElem?_cons_succ, Option.some.injEq] at ho
      subst ho
      obtain ⟨P, L, e15, hp15⟩ := (he ⟨15, .data⟩ (by simp) rfl : nmP7 g 15 (vs 15) W)
      rw [e15] at hK ⊢
      rw [if_pos (by rfl)]
      simp only [put_someT, setIfInBounds_toArray, set_cons_zero, set_cons_succ] at hK
      have HK := Lib.hid hK
      clear hK he hi hBW
      go_simp
      exact HK.out _ _ ⟨P, L, rfl, hp15⟩ (Below.refl _ _)
    · simp only [getElem?_toArray, getElem?_cons_zero, getElem?_cons_succ, Option.some.injEq] at ho
      subst ho
      obtain ⟨P, L, e16, hp16⟩ := (he ⟨16, .data⟩ (by simp) rfl : nmP7 g 16 (vs 16) W)
      rw [e16] at hK ⊢
      rw [if_pos (by rfl)]
      simp only [put_someT, setIfInBounds_toArray, set_cons_zero, set_cons_succ] at hK
      have HK := Lib.hid hK
      clear hK he hi hBW
      go_simp
      exact HK.out _ _ ⟨P, L, rfl, hp16⟩ (Below.refl _ _)
    · simp only [getElem?_toArray, getElem?_cons_zero, getElem?_cons_succ, Option.some.injEq] at ho
      subst ho
      obtain ⟨P, L, e16, hp16⟩ := (he ⟨16, .data⟩ (by simp) rfl : nmP7 g 16 (vs 16) W)
      rw [e16] at hK ⊢
      rw [if_pos (by rfl)]
      simp only [put_someT, setIfInBounds_toArray, set_cons_zero, set_cons_succ] at hK
      have HK := Lib.hid hK
      clear hK he hi hBW
      go_simp
      exact HK.out _ _ rfl (Below.refl _ _)
    · simp only [getElem?_toArray, getElem?_cons_zero, getElem?_cons_succ, Option.some.injEq] at ho
      subst ho
      obtain ⟨P, L, e17, hp17⟩ := (he ⟨17, .data⟩ (by simp) rfl : nmP7 g 17 (vs 17) W)
      rw [e17] at hK ⊢
      rw [if_pos (by rfl)]
      simp only [put_someT, setIfInBounds_toArray, set_cons_zero, set_cons_succ] at hK
      have HK := Lib.hid hK
      clear hK he hi hBW
      go_simp
      exact HK.out _ _ ⟨P, L, rfl, hp17⟩ (Below.refl _ _)
  · intro vs W3 hall hBW
    obtain ⟨P, L, e19, hp, hal⟩ : nmP7 g 19 (vs 19) W3 := hall 19 (by decide)
    have e18 : vs 18 = .int .i64 0 := (hall 18 (by decide) : nmP7 g 18 (vs 18) W3)
    simp only [take_succ_cons, take_zero, List.drop_succ_cons, List.drop_zero, fillV, put_someT, put_noneC, setIfInBounds_toArray, set_cons_zero, set_cons_succ]
    rw [e19, e18]
    generalize vs 0 = z0
    generalize vs 1 = z1
    generalize vs 2 = z2
    generalize vs 3 = z3
    generalize vs 4 = z4
    generalize vs 5 = z5
    generalize vs 6 = z6
    generalize vs 7 = z7
    generalize vs 8 = z8
    generalize vs 9 = z9
    generalize vs 10 = z10
    generalize vs 11 = z11
    generalize vs 12 = z12
    generalize vs 13 = z13
    generalize vs 14 = z14
    generalize vs 15 = z15
    generalize vs 16 = z16
    generalize vs 17 = z17
    have B3 := Lib.hid (BV.out.trans (hBW.mono BV.out.size))
    have PO := Lib.hid hp
    have HL := Lib.hid (show L.length = 11 from hal.1)
    have HST := Lib.hid (fun x (hx : x ∈ nmStates) => show stepsV L 5 x.1 = x.2 ∧ badS 11 x.1 = false from ⟨(alike_steps (nm30_of hal) 5 x.1).trans (nm_steps x hx).1, (nm_steps x hx).2⟩)
    clear hall hBW e18 e19 hp hal BV PA LB
    go_wp2_with fail
    obtain ⟨w4, hw4⟩ : ∃ w4, w4 = ((((((((((((((((W3.alloc (.cells #[.int .i64 0, .int .i64 1, .int .i64 2, .int .i64 3, .int .i64 4] 3)).alloc (.cells #[.int .i64 1, .int .i64 2, .int .i64 3, .int .i64 4] 3)).alloc (.cells #[.int .u8 6, .int .i64 0] 61)).alloc (.cells #[.int .i64 5, .int .i64 3, .int .i64 2, .int .i64 4, .int .i64 3] 3)).alloc (.cells #[.int .u8 7, .int .i64 0, .int .u8 7, .int .i64 1, .int .u8 4, .int .i64 5] 61)).alloc (.cells #[.int .i64 6, .int .i64 2, .int .i64 3, .int .i64 4] 3)).alloc (.cells #[.int .u8 7, .int .i64 0, .int .u8 7, .int .i64 1, .int .u8 3, .int .i64 6] 61)).alloc (.cells #[.int .i64 1, .int .i64 6, .int .i64 2, .int .i64 3, .int .i64 4] 3)).alloc (.cells #[.int .u8 7, .int .i64 0, .int .u8 4, .int .i64 6] 61)).alloc (.cells #[.int .i64 7, .int .i64 2, .int .i64 3, .int .i64 8] 3)).alloc (.cells #[.int .u8 7, .int .i64 0, .int .u8 7, .int .i64 1, .int .u8 8, .int .i64 4, .int .u8 2, .int .i64 7, .int .u8 5, .int .i64 8] 61)).alloc (.cells #[.int .i64 0, .int .i64 1, .int .i64 2, .int .i64 3, .int .i64 4, .int .i64 8, .int .i64 10] 3)).alloc (.cells #[.int .u8 1, .int .i64 8, .int .u8 1, .int .i64 10] 61)).alloc (.cells #[.int .i64 0, .int .i64 1, .int .i64 2, .int .i64 9, .int .i64 4] 3)).alloc (.cells #[.int .u8 7, .int .i64 3, .int .u8 4, .int .i64 9] 61)).alloc (.cells #[.slice (some ⟨W3.heap.size, 0, none⟩) 5 5, .slice none 0 0, .slice (some ⟨W3.heap.size + 1, 0, none⟩) 4 4, .slice (some ⟨W3.heap.size + 1 + 1, 0, none⟩) 1 1, .slice (some ⟨W3.heap.size + 1 + 1 + 1, 0, none⟩) 5 5, .slice (some ⟨W3.heap.size + 1 + 1 + 1 + 1, 0, none⟩) 3 3, .slice (some ⟨W3.heap.size + 1 + 1 + 1 + 1 + 1, 0, none⟩) 4 4, .slice (some ⟨W3.heap.size + 1 + 1 + 1 + 1 + 1 + 1, 0, none⟩) 3 3, .slice (some ⟨W3.heap.size + 1 + 1 + 1 + 1 + 1 + 1 + 1, 0, none⟩) 5 5, .slice (some ⟨W3.heap.size + 1 + 1 + 1 + 1 + 1 + 1 + 1 + 1, 0, none⟩) 2 2, .slice (some ⟨W3.heap.size + 1 + 1 + 1 + 1 + 1 + 1 + 1 + 1 + 1, 0, none⟩) 4 4, .slice (some ⟨W3.heap.size + 1 + 1 + 1 + 1 + 1 + 1 + 1 + 1 + 1 + 1, 0, none⟩) 5 5, .slice (some ⟨W3.heap.size + 1 + 1 + 1 + 1 + 1 + 1 + 1 + 1 + 1 + 1 + 1, 0, none⟩) 7 7, .slice (some ⟨W3.heap.size + 1 + 1 + 1 + 1 + 1 + 1 + 1 + 1 + 1 + 1 + 1 + 1, 0, none⟩) 2 2, .slice (some ⟨W3.heap.size + 1 + 1 + 1 + 1 + 1 + 1 + 1 + 1 + 1 + 1 + 1 + 1 + 1, 0, none⟩) 5 5, .slice (some ⟨W3.heap.size + 1 + 1 + 1 + 1 + 1 + 1 + 1 + 1 + 1 + 1 + 1 + 1 + 1 + 1, 0, none⟩) 2 2] 67)) := ⟨_, rfl⟩
    rw [← hw4]
    have T8 := Lib.hid (show Tab8 (W3.heap.size + 1 + 1 + 1 + 1 + 1 + 1 + 1 + 1 + 1 + 1 + 1 + 1 + 1 + 1 + 1) w4 from by rw [hw4]; exact tab8_made W3)
    have B34 := Lib.hid (show Below W3.heap.size W3 w4 from by rw [hw4]; exact allocs_below (tabO ++ [tabT W3]) W3)
    clear hw4
    generalize W3.heap.size + 1 + 1 + 1 + 1 + 1 + 1 + 1 + 1 + 1 + 1 + 1 + 1 + 1 + 1 + 1 = g8 at *
    have OF := Lib.hid (fun (S D : List Int × List (Int × Int)) (x : List Int) (y : List (Int × Int)) (b : Bool) (er : Int) (hs : stepsV L 5 x = y) (hb : badS 11 x = b) (he : er = if b then 5 else 0) (n m : Nat) (hn : x.length = n) (hm : y.length = m) (hl : n ≤ 100) W (hW : Below W3.heap.size W3 W) (A : Option Addr) (c : Nat) (hR : Rd encI 1 W.heap.size A c x W) => (show Calls Tryz.prog 25 #[.pointer (some ⟨P, 0, none⟩), .slice A n c] W fun e w' => ∃ A2 c2, e = .returned (.tuple #[.slice A2 m c2, .int .i64 er]) ∧ Rd encSt 2 w'.heap.size A2 c2 y w' ∧ Below W.heap.size W w' from by
      have h := stof_any (I0 := 5) (PO.out.then hW) A c x hR (by omega) (by have := HL.out; omega) (by have := HL.out; omega)
      rw [HL.out, hb, ← he, hs, hn] at h
      refine h.mono ?_
      rintro e w' ⟨v, rfl, ho, hb'⟩
      obtain ⟨A2, c2, rfl, hrd⟩ := ho.rd encSt_len
      exact ⟨A2, c2, by rw [hm], hrd, hb'⟩))
    go_loopw [104] (fun iv wr => ∃ k : Nat, k ≤ 8 ∧ iv = .int .i64 (k : Int) ∧ Below w4.heap.size w4 wr) (fun iv _ => 8 - (intOf iv).toNat)
    case atStart => exact ⟨0, by omega, rfl, Below.refl _ _⟩
    case round =>
      obtain ⟨k, hk, rfl, hB⟩ := hrel
      rename World => wr
      have BR := Lib.hid hB
      have T8R := Lib.hid (T8.out.then hB)
      clear hB
      by_cases hlt : k < 8
      · obtain ⟨A, c, A2, c2, t0, t1, hS, hW⟩ := T8R.out.2 k hlt
        have hmem : nmStates[k] ∈ nmStates := List.getElem_mem hlt
        obtain ⟨hs1, hs2⟩ := HST.out _ hmem
        have hl1 := nm_len _ hmem
        generalize nmStates[k].1 = st at *
        generalize nmStates[k].2 = wt at *
        obtain ⟨n, hn⟩ : ∃ n, st.length = n := ⟨_, rfl⟩
        obtain ⟨m, hm⟩ : ∃ m, wt.length = m := ⟨_, rfl⟩
        rw [hn] at t0
        rw [hm] at t1
        have B3R := Lib.hid (B34.out.trans (BR.out.mono B34.out.size))
        have RS := Lib.hid hS
        have RW := Lib.hid hW
        have OFK := Lib.hid (fun W hW' => OF.out ([], []) ([], []) st wt false 0 hs1 hs2 rfl n m hn hm (by omega) W hW' A c)
        have SMK := Lib.hid (fun W B d (h : Rd encSt 2 W.heap.size B d wt W) (h' : Rd encSt 2 W.heap.size A2 c2 wt W) => (show Calls Tryz.prog 29 #[.slice B m d, .slice A2 m c2] W fun e w' => e = .returned (.bool true) ∧ Below W.heap.size W w' from by have h9 := same30_any B A2 d c2 wt wt W (by omega) (by omega) h h'; rw [decide_eq_true rfl, hm] at h9; exact h9))
        have i0 : (0 : Int) ≤ (k : Int) := by omega
        have i1 : (k : Int) < 8 := by omega
        clear hs1 hs2 hl1 hmem hn hm hS hW
        go_wp2_with fail
        go_at_call 25
        refine (OFK.out _ (B3R.out.alloc B3R.out.size _) ((RS.out.below ((Below.refl _ wr).alloc (Nat.le_refl _) (.cells #[.slice A n c, .slice A2 m c2] 67))).more (by simp))).mono ?_
        rintro e w5 ⟨A3, c3, rfl, hr3, hb5⟩
        have BR5 := Lib.hid (((Below.refl _ wr).alloc (Nat.le_refl _) (.cells #[.slice A n c, .slice A2 m c2] 67)).trans (hb5.mono (by simp)))
        have R3 := Lib.hid hr3
        have y1 := (hb5.cell (p := ⟨wr.heap.size, 1, none⟩) (by show wr.heap.size < (wr.alloc _).heap.size; rw [World.size_alloc]; omega)).trans (show (wr.alloc (.cells #[.slice A n c, .slice A2 m c2] 67)).cell? ⟨wr.heap.size, 1, none⟩ = some (.slice A2 m c2) by simp [go_sem])
        clear hr3 hb5 t0 t1
        go_wp2_with fail
        go_at_call 29
        refine (SMK.out _ _ _ R3.out ((RW.out.below BR5.out).more BR5.out.size)).mono ?_
        rintro e w6 ⟨rfl, hb6⟩
        have B6 := Lib.hid (BR.out.trans ((BR5.out.trans (hb6.mono BR5.out.size)).mono BR.out.size))
        clear hb6 y1
        go_wp2_with fail
        go_roundw
        case rel => exact ⟨k + 1, by omega, by go_num, B6.out⟩
        case measure => simp [intOf]; omega
      · obtain rfl : k = 8 := by omega
        have BR0 := Lib.hid (B34.out.trans (BR.out.mono B34.out.size))
        go_wp2_with fail
        go_at_call 25
        refine (OF.out ([], []) ([], []) [0, 11] _ true 5 rfl nm_more.1 rfl 2 _ rfl rfl (by omega) _ (BR0.out.alloc BR0.out.size _) (some ⟨wr.heap.size, 0, none⟩) 2 (rd_made (enc := encI) (size := 1) (fun _ => rfl) [(0 : Int), 11] wr 3 (by decide))).mono ?_
        rintro e w5 ⟨A3, c3, rfl, _, hb5⟩
        have B5 := Lib.hid (BR.out.trans (((Below.refl _ wr).alloc (Nat.le_refl _) (.cells #[.int .i64 0, .int .i64 11] 3)).trans (hb5.mono (by simp)) |>.mono BR.out.size))
        clear hb5
        generalize (stepsV L 5 [0, 11]).length = l17
        have BR5 := Lib.hid (B34.out.trans (B5.out.mono B34.out.size))
        go_wp2_with fail
        go_at_call 25
        refine (OF.out ([], []) ([], []) [-1] _ true 5 rfl nm_more.2.1 rfl 1 _ rfl rfl (by omega) _ (BR5.out.alloc BR5.out.size _) (some ⟨w5.heap.size, 0, none⟩) 1 (rd_made (enc := encI) (size := 1) (fun _ => rfl) [(-1 : Int)] w5 3 (by decide))).mono ?_
        rintro e w6 ⟨A4, c4, rfl, _, hb6⟩
        have B6 := Lib.hid (B5.out.trans (((Below.refl _ w5).alloc (Nat.le_refl _) (.cells #[.int .i64 (-1)] 3)).trans (hb6.mono (by simp)) |>.mono B5.out.size))
        clear hb6
        generalize (stepsV L 5 [-1]).length = l18
        go_wp2_with fail
        obtain ⟨w7, hw7⟩ : ∃ w7, w7 = ((((((w6.alloc (.cells #[.int .u8 0, .int .i64 0] 61)).alloc (.cells #[.int .u8 9, .int .i64 0] 61)).alloc (.cells #[.int .u8 1, .int .i64 0] 61)).alloc (.cells #[.int .u8 6, .int .i64 5] 61)).alloc (.cells #[.int .u8 6, .int .i64 0, .int .u8 7, .int .i64 0] 61)).alloc (.cells #[.slice (some ⟨w6.heap.size, 0, none⟩) 1 1, .slice (some ⟨w6.heap.size + 1, 0, none⟩) 1 1, .slice (some ⟨w6.heap.size + 1 + 1, 0, none⟩) 1 1, .slice (some ⟨w6.heap.size + 1 + 1 + 1, 0, none⟩) 1 1, .slice (some ⟨w6.heap.size + 1 + 1 + 1 + 1, 0, none⟩) 2 2] 43)) := ⟨_, rfl⟩
        rw [← hw7]
        have T5 := Lib.hid (show Tab5 (w6.heap.size + 1 + 1 + 1 + 1 + 1) w7 from by rw [hw7]; exact tab5_made w6)
        have B67 := Lib.hid (show Below w6.heap.size w6 w7 from by rw [hw7]; exact allocs_below (tabO5 ++ [tabT5 w6]) w6)
        clear hw7
        generalize w6.heap.size + 1 + 1 + 1 + 1 + 1 = g5 at *
        have AP := Lib.hid (fun (D : List (Int × Int)) (n : Nat) (er : Int) (hn : D.length = n) (hm : n ≤ 100) (he : applyE 11 5 D = er) W (hW : Below W3.heap.size W3 W) (A : Option Addr) (c : Nat) (hR : Rd encSt 2 W.heap.size A c D W) => (show Calls Tryz.prog 27 #[.pointer (some ⟨P, 0, none⟩), .slice A n c] W fun e w' => ∃ v, e = .returned (.tuple #[v, .int .i64 er]) ∧ Below W.heap.size W w' from by
          have h := stapply_any (ins := 5) (PO.out.then hW) A c D hR (by omega) (by have := HL.out; omega) (by have := HL.out; omega)
          rw [HL.out, he, hn] at h
          refine h.mono ?_
          rintro e w' ⟨v, rfl, _, hb'⟩
          exact ⟨v, rfl, hb'⟩))
        have B7 := Lib.hid ((B34.out.trans (B6.out.mono B34.out.size)).trans (B67.out.mono (B34.out.trans (B6.out.mono B34.out.size)).size))
        go_loopw [150] (fun iv wr => ∃ k : Nat, k ≤ 5 ∧ iv = .int .i64 (k : Int) ∧ Below w7.heap.size w7 wr) (fun iv _ => 5 - (intOf iv).toNat)
        case atStart => exact ⟨0, by omega, rfl, Below.refl _ _⟩
        case round =>
          obtain ⟨k, hk, rfl, hB⟩ := hrel
          rename World => wq
          have BQ := Lib.hid hB
          have T5R := Lib.hid (T5.out.then hB)
          have B7Q := Lib.hid (B7.out.trans (hB.mono B7.out.size))
          clear hB
          by_cases hlt : k < 5
          · obtain ⟨A, c, t0, hS⟩ := T5R.out.2 k hlt
            have hmem : nmBad[k] ∈ nmBad := List.getElem_mem hlt
            have hs1 := nm_bad _ hmem
            have hl1 := nm_blen _ hmem
            generalize nmBad[k] = st at *
            obtain ⟨n, hn⟩ : ∃ n, st.length = n := ⟨_, rfl⟩
            rw [hn] at t0 hl1
            have i0 : (0 : Int) ≤ (k : Int) := by omega
            have i1 : (k : Int) < 5 := by omega
            have APK := Lib.hid (AP.out st n 4 hn (by omega) hs1 wq B7Q.out A c hS)
            clear hs1 hl1 hmem hn hS
            go_wp2_with fail
            go_at_call 27
            refine APK.out.mono ?_
            rintro e w8 ⟨v8, rfl, hb8⟩
            have B8 := Lib.hid (BQ.out.trans (hb8.mono BQ.out.size))
            clear hb8 t0
            go_wp2_with fail
            go_roundw
            case rel => exact ⟨k + 1, by omega, by go_num, B8.out⟩
            case measure => simp [intOf]; omega
          · obtain rfl : k = 5 := by omega
            go_wp2_with fail
            go_at_call 27
            refine (AP.out [(0, 0), (1, 11)] 2 5 rfl (by omega) nm_more.2.2 _ (B7Q.out.alloc B7Q.out.size _) (some ⟨wq.heap.size, 0, none⟩) 2 (rd_made (enc := encSt) (size := 2) encSt_len [((0 : Int), (0 : Int)), (1, 11)] wq 61 (by decide))).mono ?_
            rintro e w9 ⟨v9, rfl, hb9⟩
            have B9 := Lib.hid (B7Q.out.trans (((Below.refl _ wq).alloc (Nat.le_refl _) (.cells #[.int .u8 0, .int .i64 0, .int .u8 1, .int .i64 11] 61)).trans (hb9.mono (by simp)) |>.mono B7Q.out.size))
            have BW9 := Lib.hid (B3.out.trans (B9.out.mono B3.out.size))
            have AW := Lib.hid (awake30 w9 (HI.out.below BW9.out))
            clear hb9
            go_wp2_with fail
            go_at_call 22
            refine AW.out.mono ?_
            rintro e wz ⟨rfl, hbz⟩
            have BZ := Lib.hid (BW9.out.trans (hbz.mono BW9.out.size))
            clear hbz
            go_wp2_with fail
            go_ret
            exact ⟨rfl, BZ.out⟩
end Go.Proofs.YteobmfpbgnmffaaGreatDoor
