/- StThere -/
import Derived.Test.YtibeipmcggbbgaaGreatDoorStepsThereRowG40
import Derived.Test.YtibeipmcggbbgaaGreatDoorStepsThereRowG41
import Derived.Test.YtibeipmcggbbgaaGreatDoorStepsThereRowG44
import Derived.Test.YtibeipmcggbbgaaGreatDoorStepsThereRowG45
import Derived.Test.YtibeipmcggbbgaaGreatDoorStepsThereRowG46
import Derived.Test.YtibeipmcggbbgaaGreatDoorStepsThereRowG38
import Derived.Test.YtibeipmcggbbgaaGreatDoorStepsThereRowG39
set_option linter.unusedSimpArgs false
set_option linter.unusedVariables false
open List (getElem?_toArray getElem?_cons_zero getElem?_cons_succ setIfInBounds_toArray set_cons_zero set_cons_succ take_succ_cons take_zero)







namespace Go.Proofs.YtibeipmcggbbgaaGreatDoor
open Go.RowKit Go.Shelf

/-- of what is installed the first numbers -/
def nowV (I0 n : Nat) : List Int := (List.range (min n I0)).map fun n : Nat => (n : Int)
theorem nowV_succ (I0 n : Nat) : nowV I0 (n + 1) = nowV I0 n ++ (if n < I0 then [(n : Int)] else []) := by
 unfold nowV
 by_cases h : n < I0
 ·rw [if_pos h, Nat.min_eq_left (by omega), Nat.min_eq_left (by omega), List.range_succ, List.map_append]
  rfl
 ·rw [if_neg h, Nat.min_eq_right (by omega), Nat.min_eq_right (by omega), List.append_nil]
theorem nowV_len (I0 n : Nat) : (nowV I0 n).length ≤ n := by unfold nowV; rw [List.length_map, List.length_range]; exact Nat.min_le_left _ _
theorem applyV_le {L : List Pr} {I0 : Nat} {D : List (Int × Int)} (h : L.length ≤ 1000000 := by omega) : (applyV L.length I0 D).length ≤ 1000000 := by
 unfold applyV
 split
 ·exact Nat.le_trans (turnV_le _) h
 ·simp
def t9N (P N b oo m c ii : Nat) (z : Int) (i : Nat) (v : Value) (W : World) : Prop := match i with
 | 0 => v = .slice (some ⟨b, oo, none⟩) m c
 | 1 => v = .int .i64 (ii : Int)
 | 2 => v = .pointer (some ⟨b, oo + ii, none⟩)
 | 3 => v = .int .i64 z
 | 4 => v = .bool true
 | 5 => v = .bool true
 | 6 => v = undef
 | 7 => v = undef
 | 8 => v = undef
 | 9 => v = undef
 | 10 => v = undef
 | 11 => v = undef
 | 12 => v = undef
 | 13 => v = .bool true
 | _ => False
theorem t9N_mono (P N b oo m c ii : Nat) (z : Int) : ∀ i v w w', t9N P N b oo m c ii z i v w → Below w.heap.size w w' → t9N P N b oo m c ii z i v w' := fun _ _ _ _ h _ => h
def t9B (P N b oo m c ii : Nat) (z : Int) (i : Nat) (v : Value) (W : World) : Prop := match i with
 | 0 => v = .slice (some ⟨b, oo, none⟩) m c
 | 1 => v = .int .i64 (ii : Int)
 | 2 => v = .pointer (some ⟨b, oo + ii, none⟩)
 | 3 => v = .int .i64 z
 | 4 => v = .bool false
 | 5 => v = .bool false
 | 6 => v = .slice (some ⟨b, oo, none⟩) m c
 | 7 => v = .int .i64 (ii : Int)
 | 8 => v = .pointer (some ⟨b, oo + ii, none⟩)
 | 9 => v = .int .i64 z
 | 10 => v = .pointer (some ⟨P, 0, none⟩)
 | 11 => v = .int .i64 (N : Int)
 | 12 => v = .bool true
 | 13 => v = .bool true
 | _ => False
theorem t9B_mono (P N b oo m c ii : Nat) (z : Int) : ∀ i v w w', t9B P N b oo m c ii z i v w → Below w.heap.size w w' → t9B P N b oo m c ii z i v w' := fun _ _ _ _ h _ => h
def t9I (P N b oo m c ii : Nat) (z : Int) (i : Nat) (v : Value) (W : World) : Prop := match i with
 | 0 => v = .slice (some ⟨b, oo, none⟩) m c
 | 1 => v = .int .i64 (ii : Int)
 | 2 => v = .pointer (some ⟨b, oo + ii, none⟩)
 | 3 => v = .int .i64 z
 | 4 => v = .bool false
 | 5 => v = .bool false
 | 6 => v = .slice (some ⟨b, oo, none⟩) m c
 | 7 => v = .int .i64 (ii : Int)
 | 8 => v = .pointer (some ⟨b, oo + ii, none⟩)
 | 9 => v = .int .i64 z
 | 10 => v = .pointer (some ⟨P, 0, none⟩)
 | 11 => v = .int .i64 (N : Int)
 | 12 => v = .bool false
 | 13 => v = .bool false
 | _ => False
theorem t9I_mono (P N b oo m c ii : Nat) (z : Int) : ∀ i v w w', t9I P N b oo m c ii z i v w → Below w.heap.size w w' → t9I P N b oo m c ii z i v w' := fun _ _ _ _ h _ => h
set_option maxRecDepth 100000 in
set_option maxHeartbeats 16000000 in
theorem stepsThere_row (w : World) (hI : PkIn w) (RA : Option Addr) (rc : Nat) (repos : List Rp) (hr : RpRow w.heap.size w RA rc repos) (hrq : ∀ r ∈ repos, ∀ p ∈ r.pk, PkQ w p) (IA : Option Addr) (ic : Nat) (ins : List Pk) (hi : PRow w.heap.size w IA ic ins) (hiq : ∀ p ∈ ins, PkQ w p) (A : Option Addr) (c : Nat) (S : List Int) (hS : Rd encI 1 w.heap.size A c S w ∧ (∀ z ∈ S, (Lit.int .i64 z).wf = true) ∧ S.length ≤ 1000000000000000) : Calls Tryz.prog 6 #[.slice RA repos.length rc, .slice IA ins.length ic, .slice A S.length c] w fun e w' => e = .returned (.bool true) ∧ Below w.heap.size w w' := by
 obtain ⟨hS, hSw, hSl⟩ := hS
 obtain ⟨m, hm9⟩ : ∃ m, S.length = m := ⟨_, rfl⟩
 have HM := Lib.hid hm9
 have hm1 : m ≤ 1000000000000000 := by omega
 obtain ⟨nr, hnr9⟩ : ∃ n, repos.length = n := ⟨_, rfl⟩
 obtain ⟨I0, hI09⟩ : ∃ n, ins.length = n := ⟨_, rfl⟩
 have WD := Lib.hid (show Calls Tryz.prog 18 #[.slice RA nr rc, .slice IA I0 ic, .int .i64 (m : Int)] w (WidePost repos ins (m : Int) w) from hnr9 ▸ hI09 ▸ wide30_any RA rc repos IA ic ins (m : Int) w hr hi)
 have AW := Lib.hid (fun W (hb : Below w.heap.size w W) => awake30 W (hI.below hb))
 have MD := Lib.hid (fun (k : Int) (hn : Narrow repos ins k) W (hb : Below w.heap.size w W) => show Calls Tryz.prog 20 #[.slice RA nr rc, .slice IA I0 ic] W (MadePost repos ins W) from hnr9 ▸ hI09 ▸ made_any (w0 := w) (hI.below hb) (hr.calls hb) (hi.calls hb) hn hrq hiq)
 have HS := Lib.hid hS
 have HSW := Lib.hid hSw
 have HI0 := Lib.hid hI09
 rw [hnr9, hI09, hm9]
 clear hI hr hrq hi hiq hS hSw hSl hm9 hnr9 hI09
 go_enter Tryz.func6, Tryz.ntmps6
 go_wp2_with fail
 go_at_call 18
 refine WD.out.mono ?_
 rintro e w1 ⟨r, rfl, hn, hb1⟩
 have B1 := Lib.hid hb1
 have AW1 := AW.out w1 hb1
 have HNR := Lib.hid hn
 clear hb1 hn WD
 cases r
 rotate_left
 ·go_wp2_with fail
  go_at_call 19
  refine AW1.mono ?_
  rintro e w2 ⟨rfl, hb2⟩
  have B2 := Lib.hid (B1.out.trans (hb2.mono B1.out.size))
  clear hb2 B1 AW MD
  go_wp2_with fail
  go_ret
  exact ⟨rfl, B2.out⟩
 have NW := Lib.hid (HNR.out rfl)
 clear HNR
 have hm2 : m ≤ 200 := by have := NW.out.nk; omega
 go_wp2_with fail
 go_at_call 19
 refine AW1.mono ?_
 rintro e w2 ⟨rfl, hb2⟩
 have B2 := Lib.hid (B1.out.trans (hb2.mono B1.out.size))
 clear hb2 B1 AW AW1
 go_wp2_with fail
 go_at_call 20
 refine (MD.out _ NW.out w2 B2.out).mono ?_
 clear MD
 rintro e w3 ⟨h3, hb3⟩
 have BW3 := Lib.hid (B2.out.trans (hb3.mono B2.out.size))
 clear hb3 B2
 rcases h3 with ⟨P, L, rfl, hp3, hl1, hl2⟩ | ⟨er, her, rfl⟩
 rotate_left
 ·have her2 : ¬ er = 0 := beq_eq_false_iff_ne.1 her
  go_wp2_with fail
  go_ret
  exact ⟨rfl, BW3.out⟩
 rw [HI0.out] at hp3 hl1
 have PL := Lib.hid hp3
 have HL1 := Lib.hid hl1
 have HL2 := Lib.hid hl2
 clear hp3 hl1 hl2
 obtain ⟨N, hN9⟩ : ∃ N, L.length = N := ⟨_, rfl⟩
 have HN := Lib.hid hN9
 have hN1 : N ≤ 100 := by have := HL2.out; omega
 have hIN : I0 ≤ N := by have := HL1.out; omega
 clear hN9 HL2
 have OF := Lib.hid (fun W (hb : Below w3.heap.size w3 W) (A' : Option Addr) (c' : Nat) (S' : List Int) (m' : Nat) (hm : S'.length = m') (hR : Rd encI 1 W.heap.size A' c' S' W) (hl : m' ≤ 1000000) => (show Calls Tryz.prog 22 #[.pointer (some ⟨P, 0, none⟩), .slice A' m' c'] W fun e w' => ∃ A2 c2, e = .returned (.tuple #[.slice A2 (stepsV L I0 S').length c2, .int .i64 (if badS N S' then 5 else 0)]) ∧ Rd encSt 2 w'.heap.size A2 c2 (stepsV L I0 S') w' ∧ Below W.heap.size W w' from by
  have h := stof_any (PL.out.then hb) A' c' S' hR (by omega) (by have := HN.out; omega) HL1.out
  rw [hm, HN.out] at h
  refine h.mono ?_
  rintro e w' ⟨v, rfl, ho, hb'⟩
  obtain ⟨A2, c2, rfl, hrd⟩ := ho.rd encSt_len
  exact ⟨A2, c2, rfl, hrd, hb'⟩))
 go_wp2_with fail
 go_at_call 22
 refine (OF.out w3 (Below.refl _ _) A c S m HM.out ((HS.out.below BW3.out).more BW3.out.size) (by omega)).mono ?_
 rintro e w4 ⟨LA, lc, rfl, hl4, hb4⟩
 have BW4 := Lib.hid (BW3.out.trans (hb4.mono BW3.out.size))
 have B34 := Lib.hid hb4
 have LR := Lib.hid hl4
 clear hb4 hl4
 obtain ⟨ln, hln⟩ : ∃ ln, (stepsV L I0 S).length = ln := ⟨_, rfl⟩
 have HLN := Lib.hid hln
 rw [hln]
 clear hln
 cases hb : badS N S
 rotate_left
 ·have HL0 := Lib.hid (show ln = 0 from by rw [← HLN.out, stepsV_bad (HN.out.symm ▸ hb)]; rfl)
  obtain rfl : ln = 0 := HL0.out
  have hb9 := Lib.hid hb
  clear hb
  go_wp2_with fail
  go_loopw [11] (fun iv wr => ∃ ii : Nat, ii ≤ m ∧ iv = .int .i64 (ii : Int) ∧ Hid (∀ k (hk : k < S.length), k < ii → 0 ≤ S[k] ∧ S[k] < (N : Int)) ∧ Below w4.heap.size w4 wr) (fun iv _ => m - (intOf iv).toNat)
  case atStart => exact ⟨0, by omega, rfl, Lib.hid (by intro k hk h; omega), Below.refl _ _⟩
  case round =>
   obtain ⟨ii, hi, rfl, HR, hB⟩ := hrel
   rename World => wr
   have HB := Lib.hid hB
   by_cases hlt : ii < m
   ·have hil : ii < S.length := by have := HM.out; omega
    have BWR := BW4.out.trans (hB.mono BW4.out.size)
    obtain ⟨b, oo, hA, hb, e0⟩ := ((HS.out.below BWR).more BWR.size).int_at hil
    have HNX := Lib.hid (fun (h : 0 ≤ S[ii] ∧ S[ii] < (N : Int)) => show ∀ k (hk : k < S.length), k < ii + 1 → 0 ≤ S[k] ∧ S[k] < (N : Int) from fun k hk hki => by
     by_cases e : k = ii
     ·subst e; exact h
     ·exact HR.out k hk (by omega))
    have HIN := Lib.hid (fun (h : badS N S = false) => badS_no.1 h S[ii] (List.getElem_mem hil))
    subst hA
    generalize S[ii] = z at *
    have HI1 := Lib.hid (show (0 : Int) ≤ (ii : Int) by omega)
    have HI2 := Lib.hid (show (ii : Int) < (m : Int) by omega)
    have E0 := Lib.hid e0
    have EB := Lib.hid hb
    have i2 := HI2.out
    clear hB e0 hb BWR
    go_wp2_with fail
    by_cases hz : z < 0
    ·have HZ := Lib.hid hz
     clear hz i2
     refine wp_region_tail (PP := t9N P N b oo m c ii z) 14 rfl (by kernel_rfl) (by kernel_rfl) (by decide) (by decide) (t9N_mono P N b oo m c ii z) (fun ii => match ii with | 0 => u50 | 1 => u51 | 2 => u52 | 3 => u53 | 4 => u54 | 5 => u55 | 6 => u56 | 7 => u57 | 8 => u58 | 9 => u59 | 10 => u60 | 11 => u61 | 12 => u62 | 13 => u63 | _ => undef) (by simp [fillV, put_someT, setIfInBounds_toArray, set_cons_zero, set_cons_succ]) ?_ ?_
     ·intro i o vs W hi ho he hBW K hK
      simp only [take_succ_cons, take_zero, fillV, put_someT, setIfInBounds_toArray, set_cons_zero, set_cons_succ] at hK ⊢
      have EW := Lib.hid ((hBW.cell (p := ⟨b, oo + ii, none⟩) EB.out).trans E0.out)
      have PLW := Lib.hid (PL.out.then (B34.out.trans ((HB.out.trans (hBW.mono HB.out.size)).mono B34.out.size)))
      obtain rfl | rfl | rfl | rfl | rfl | rfl | rfl | rfl | rfl | rfl | rfl | rfl | rfl | rfl := (show i = 0 ∨ i = 1 ∨ i = 2 ∨ i = 3 ∨ i = 4 ∨ i = 5 ∨ i = 6 ∨ i = 7 ∨ i = 8 ∨ i = 9 ∨ i = 10 ∨ i = 11 ∨ i = 12 ∨ i = 13 by exact (by have : i < 14 := hi; omega))
      ·simp only [getElem?_toArray, getElem?_cons_zero, getElem?_cons_succ, Option.some.injEq] at ho
       subst ho
       rw [if_pos (by rfl)]
       simp only [put_someT, setIfInBounds_toArray, set_cons_zero, set_cons_succ] at hK
       have HK := Lib.hid hK
       clear hK he hi hBW
       go_simp
       exact HK.out _ _ (by first | rfl | simp [t9N]) (Below.refl _ _)
      ·simp only [getElem?_toArray, getElem?_cons_zero, getElem?_cons_succ, Option.some.injEq] at ho
       subst ho
       rw [if_pos (by rfl)]
       simp only [put_someT, setIfInBounds_toArray, set_cons_zero, set_cons_succ] at hK
       have HK := Lib.hid hK
       clear hK he hi hBW
       go_simp
       exact HK.out _ _ (by first | rfl | simp [t9N]) (Below.refl _ _)
      ·simp only [getElem?_toArray, getElem?_cons_zero, getElem?_cons_succ, Option.some.injEq] at ho
       subst ho
       have e0 : vs 0 = .slice (some ⟨b, oo, none⟩) m c := (he ⟨0, .data⟩ (by simp) rfl : t9N P N b oo m c ii z 0 (vs 0) W)
       rw [e0] at hK ⊢
       have e1 : vs 1 = .int .i64 (ii : Int) := (he ⟨1, .data⟩ (by simp) rfl : t9N P N b oo m c ii z 1 (vs 1) W)
       rw [e1] at hK ⊢
       rw [if_pos (by rfl)]
       simp only [put_someT, setIfInBounds_toArray, set_cons_zero, set_cons_succ] at hK
       have HK := Lib.hid hK
       clear hK he hi hBW
       have i1 := HI1.out
       have i2 := HI2.out
       go_simp
       exact HK.out _ _ (by simp [t9N]) (Below.refl _ _)
      ·simp only [getElem?_toArray, getElem?_cons_zero, getElem?_cons_succ, Option.some.injEq] at ho
       subst ho
       have e2 : vs 2 = .pointer (some ⟨b, oo + ii, none⟩) := (he ⟨2, .data⟩ (by simp) rfl : t9N P N b oo m c ii z 2 (vs 2) W)
       rw [e2] at hK ⊢
       rw [if_pos (by rfl)]
       simp only [put_someT, setIfInBounds_toArray, set_cons_zero, set_cons_succ] at hK
       have HK := Lib.hid hK
       clear hK he hi hBW
       have ccE := EW.out
       go_simp
       exact HK.out _ _ rfl (Below.refl _ _)
      ·simp only [getElem?_toArray, getElem?_cons_zero, getElem?_cons_succ, Option.some.injEq] at ho
       subst ho
       have e3 : vs 3 = .int .i64 z := (he ⟨3, .data⟩ (by simp) rfl : t9N P N b oo m c ii z 3 (vs 3) W)
       rw [e3] at hK ⊢
       rw [if_pos (by rfl)]
       simp only [put_someT, setIfInBounds_toArray, set_cons_zero, set_cons_succ] at hK
       have HK := Lib.hid hK
       clear hK he hi hBW
       have hz := HZ.out
       go_simp
       exact HK.out _ _ (by simp [t9N, hz]) (Below.refl _ _)
      ·simp only [getElem?_toArray, getElem?_cons_zero, getElem?_cons_succ, Option.some.injEq] at ho
       subst ho
       have e4 : vs 4 = .bool true := (he ⟨4, .data⟩ (by simp) rfl : t9N P N b oo m c ii z 4 (vs 4) W)
       rw [e4] at hK ⊢
       rw [if_pos (by rfl)]
       simp only [put_someT, setIfInBounds_toArray, set_cons_zero, set_cons_succ] at hK
       have HK := Lib.hid hK
       clear hK he hi hBW
       go_simp
       exact HK.out _ _ (by first | rfl | simp [t9N]) (Below.refl _ _)
      ·simp only [getElem?_toArray, getElem?_cons_zero, getElem?_cons_succ, Option.some.injEq] at ho
       subst ho
       have e5 : vs 5 = .bool true := (he ⟨5, .guard⟩ (by simp) rfl : t9N P N b oo m c ii z 5 (vs 5) W)
       rw [e5] at hK ⊢
       rw [if_neg (by exact Bool.false_ne_true)]
       exact hK _ _ rfl (Below.refl _ _)
      ·simp only [getElem?_toArray, getElem?_cons_zero, getElem?_cons_succ, Option.some.injEq] at ho
       subst ho
       have e5 : vs 5 = .bool true := (he ⟨5, .guard⟩ (by simp) rfl : t9N P N b oo m c ii z 5 (vs 5) W)
       rw [e5] at hK ⊢
       rw [if_neg (by exact Bool.false_ne_true)]
       exact hK _ _ rfl (Below.refl _ _)
      ·simp only [getElem?_toArray, getElem?_cons_zero, getElem?_cons_succ, Option.some.injEq] at ho
       subst ho
       have e6 : vs 6 = undef := (he ⟨6, .data⟩ (by simp) rfl : t9N P N b oo m c ii z 6 (vs 6) W)
       rw [e6] at hK ⊢
       have e7 : vs 7 = undef := (he ⟨7, .data⟩ (by simp) rfl : t9N P N b oo m c ii z 7 (vs 7) W)
       rw [e7] at hK ⊢
       have e5 : vs 5 = .bool true := (he ⟨5, .guard⟩ (by simp) rfl : t9N P N b oo m c ii z 5 (vs 5) W)
       rw [e5] at hK ⊢
       rw [if_neg (by exact Bool.false_ne_true)]
       exact hK _ _ rfl (Below.refl _ _)
      ·simp only [getElem?_toArray, getElem?_cons_zero, getElem?_cons_succ, Option.some.injEq] at ho
       subst ho
       have e8 : vs 8 = undef := (he ⟨8, .data⟩ (by simp) rfl : t9N P N b oo m c ii z 8 (vs 8) W)
       rw [e8] at hK ⊢
       have e5 : vs 5 = .bool true := (he ⟨5, .guard⟩ (by simp) rfl : t9N P N b oo m c ii z 5 (vs 5) W)
       rw [e5] at hK ⊢
       rw [if_neg (by exact Bool.false_ne_true)]
       exact hK _ _ rfl (Below.refl _ _)
      ·simp only [getElem?_toArray, getElem?_cons_zero, getElem?_cons_succ, Option.some.injEq] at ho
       subst ho
       have e5 : vs 5 = .bool true := (he ⟨5, .guard⟩ (by simp) rfl : t9N P N b oo m c ii z 5 (vs 5) W)
       rw [e5] at hK ⊢
       rw [if_neg (by exact Bool.false_ne_true)]
       exact hK _ _ rfl (Below.refl _ _)
      ·simp only [getElem?_toArray, getElem?_cons_zero, getElem?_cons_succ, Option.some.injEq] at ho
       subst ho
       have e10 : vs 10 = undef := (he ⟨10, .data⟩ (by simp) rfl : t9N P N b oo m c ii z 10 (vs 10) W)
       rw [e10] at hK ⊢
       have e5 : vs 5 = .bool true := (he ⟨5, .guard⟩ (by simp) rfl : t9N P N b oo m c ii z 5 (vs 5) W)
       rw [e5] at hK ⊢
       rw [if_neg (by exact Bool.false_ne_true)]
       exact hK _ _ rfl (Below.refl _ _)
      ·simp only [getElem?_toArray, getElem?_cons_zero, getElem?_cons_succ, Option.some.injEq] at ho
       subst ho
       have e9 : vs 9 = undef := (he ⟨9, .data⟩ (by simp) rfl : t9N P N b oo m c ii z 9 (vs 9) W)
       rw [e9] at hK ⊢
       have e11 : vs 11 = undef := (he ⟨11, .data⟩ (by simp) rfl : t9N P N b oo m c ii z 11 (vs 11) W)
       rw [e11] at hK ⊢
       have e5 : vs 5 = .bool true := (he ⟨5, .guard⟩ (by simp) rfl : t9N P N b oo m c ii z 5 (vs 5) W)
       rw [e5] at hK ⊢
       rw [if_neg (by exact Bool.false_ne_true)]
       exact hK _ _ rfl (Below.refl _ _)
      ·simp only [getElem?_toArray, getElem?_cons_zero, getElem?_cons_succ, Option.some.injEq] at ho
       subst ho
       have e5 : vs 5 = .bool true := (he ⟨5, .data⟩ (by simp) rfl : t9N P N b oo m c ii z 5 (vs 5) W)
       rw [e5] at hK ⊢
       have e12 : vs 12 = undef := (he ⟨12, .data⟩ (by simp) rfl : t9N P N b oo m c ii z 12 (vs 12) W)
       rw [e12] at hK ⊢
       rw [if_pos (by rfl)]
       simp only [put_someT, setIfInBounds_toArray, set_cons_zero, set_cons_succ] at hK
       have HK := Lib.hid hK
       clear hK he hi hBW
       go_simp
       exact HK.out _ _ (by first | rfl | simp [t9N]) (Below.refl _ _)
     ·intro vs W2 hall hBW
      have e13 : vs 13 = .bool true := (hall 13 (by decide) : t9N P N b oo m c ii z 13 (vs 13) W2)
      simp only [take_succ_cons, take_zero, List.drop_succ_cons, List.drop_zero, fillV, put_someT, put_noneC, setIfInBounds_toArray, set_cons_zero, set_cons_succ]
      rw [e13]
      generalize vs 0 = q0
      generalize vs 1 = q1
      generalize vs 2 = q2
      generalize vs 3 = q3
      generalize vs 4 = q4
      generalize vs 5 = q5
      generalize vs 6 = q6
      generalize vs 7 = q7
      generalize vs 8 = q8
      generalize vs 9 = q9
      generalize vs 10 = q10
      generalize vs 11 = q11
      generalize vs 12 = q12
      have BW2 := Lib.hid (HB.out.trans (hBW.mono HB.out.size))
      clear hall hBW e13
      go_wp2_with fail
      go_ret
      exact ⟨rfl, BW4.out.trans (BW2.out.mono BW4.out.size)⟩
    ·have HZ := Lib.hid hz
     by_cases hz2 : (N : Int) ≤ z
     ·have HZ2 := Lib.hid hz2
      clear hz hz2 i2
      refine wp_region_tail (PP := t9B P N b oo m c ii z) 14 rfl (by kernel_rfl) (by kernel_rfl) (by decide) (by decide) (t9B_mono P N b oo m c ii z) (fun ii => match ii with | 0 => u50 | 1 => u51 | 2 => u52 | 3 => u53 | 4 => u54 | 5 => u55 | 6 => u56 | 7 => u57 | 8 => u58 | 9 => u59 | 10 => u60 | 11 => u61 | 12 => u62 | 13 => u63 | _ => undef) (by simp [fillV, put_someT, setIfInBounds_toArray, set_cons_zero, set_cons_succ]) ?_ ?_
      ·intro i o vs W hi ho he hBW K hK
       simp only [take_succ_cons, take_zero, fillV, put_someT, setIfInBounds_toArray, set_cons_zero, set_cons_succ] at hK ⊢
       have EW := Lib.hid ((hBW.cell (p := ⟨b, oo + ii, none⟩) EB.out).trans E0.out)
       have PLW := Lib.hid (PL.out.then (B34.out.trans ((HB.out.trans (hBW.mono HB.out.size)).mono B34.out.size)))
       obtain rfl | rfl | rfl | rfl | rfl | rfl | rfl | rfl | rfl | rfl | rfl | rfl | rfl | rfl := (show i = 0 ∨ i = 1 ∨ i = 2 ∨ i = 3 ∨ i = 4 ∨ i = 5 ∨ i = 6 ∨ i = 7 ∨ i = 8 ∨ i = 9 ∨ i = 10 ∨ i = 11 ∨ i = 12 ∨ i = 13 by exact (by have : i < 14 := hi; omega))
       ·simp only [getElem?_toArray, getElem?_cons_zero, getElem?_cons_succ, Option.some.injEq] at ho
        subst ho
        rw [if_pos (by rfl)]
        simp only [put_someT, setIfInBounds_toArray, set_cons_zero, set_cons_succ] at hK
        have HK := Lib.hid hK
        clear hK he hi hBW
        go_simp
        exact HK.out _ _ (by first | rfl | simp [t9B]) (Below.refl _ _)
       ·simp only [getElem?_toArray, getElem?_cons_zero, getElem?_cons_succ, Option.some.injEq] at ho
        subst ho
        rw [if_pos (by rfl)]
        simp only [put_someT, setIfInBounds_toArray, set_cons_zero, set_cons_succ] at hK
        have HK := Lib.hid hK
        clear hK he hi hBW
        go_simp
        exact HK.out _ _ (by first | rfl | simp [t9B]) (Below.refl _ _)
       ·simp only [getElem?_toArray, getElem?_cons_zero, getElem?_cons_succ, Option.some.injEq] at ho
        subst ho
        have e0 : vs 0 = .slice (some ⟨b, oo, none⟩) m c := (he ⟨0, .data⟩ (by simp) rfl : t9B P N b oo m c ii z 0 (vs 0) W)
        rw [e0] at hK ⊢
        have e1 : vs 1 = .int .i64 (ii : Int) := (he ⟨1, .data⟩ (by simp) rfl : t9B P N b oo m c ii z 1 (vs 1) W)
        rw [e1] at hK ⊢
        rw [if_pos (by rfl)]
        simp only [put_someT, setIfInBounds_toArray, set_cons_zero, set_cons_succ] at hK
        have HK := Lib.hid hK
        clear hK he hi hBW
        have i1 := HI1.out
        have i2 := HI2.out
        go_simp
        exact HK.out _ _ (by simp [t9B]) (Below.refl _ _)
       ·simp only [getElem?_toArray, getElem?_cons_zero, getElem?_cons_succ, Option.some.injEq] at ho
        subst ho
        have e2 : vs 2 = .pointer (some ⟨b, oo + ii, none⟩) := (he ⟨2, .data⟩ (by simp) rfl : t9B P N b oo m c ii z 2 (vs 2) W)
        rw [e2] at hK ⊢
        rw [if_pos (by rfl)]
        simp only [put_someT, setIfInBounds_toArray, set_cons_zero, set_cons_succ] at hK
        have HK := Lib.hid hK
        clear hK he hi hBW
        have ccE := EW.out
        go_simp
        exact HK.out _ _ rfl (Below.refl _ _)
       ·simp only [getElem?_toArray, getElem?_cons_zero, getElem?_cons_succ, Option.some.injEq] at ho
        subst ho
        have e3 : vs 3 = .int .i64 z := (he ⟨3, .data⟩ (by simp) rfl : t9B P N b oo m c ii z 3 (vs 3) W)
        rw [e3] at hK ⊢
        rw [if_pos (by rfl)]
        simp only [put_someT, setIfInBounds_toArray, set_cons_zero, set_cons_succ] at hK
        have HK := Lib.hid hK
        clear hK he hi hBW
        have hz := HZ.out
        go_simp
        exact HK.out _ _ (by simp [t9B, hz]) (Below.refl _ _)
       ·simp only [getElem?_toArray, getElem?_cons_zero, getElem?_cons_succ, Option.some.injEq] at ho
        subst ho
        have e4 : vs 4 = .bool false := (he ⟨4, .data⟩ (by simp) rfl : t9B P N b oo m c ii z 4 (vs 4) W)
        rw [e4] at hK ⊢
        rw [if_pos (by rfl)]
        simp only [put_someT, setIfInBounds_toArray, set_cons_zero, set_cons_succ] at hK
        have HK := Lib.hid hK
        clear hK he hi hBW
        go_simp
        exact HK.out _ _ (by first | rfl | simp [t9B]) (Below.refl _ _)
       ·simp only [getElem?_toArray, getElem?_cons_zero, getElem?_cons_succ, Option.some.injEq] at ho
        subst ho
        have e5 : vs 5 = .bool false := (he ⟨5, .guard⟩ (by simp) rfl : t9B P N b oo m c ii z 5 (vs 5) W)
        rw [e5] at hK ⊢
        rw [if_pos (by rfl)]
        simp only [put_someT, setIfInBounds_toArray, set_cons_zero, set_cons_succ] at hK
        have HK := Lib.hid hK
        clear hK he hi hBW
        go_simp
        exact HK.out _ _ (by first | rfl | simp [t9B]) (Below.refl _ _)
       ·simp only [getElem?_toArray, getElem?_cons_zero, getElem?_cons_succ, Option.some.injEq] at ho
        subst ho
        have e5 : vs 5 = .bool false := (he ⟨5, .guard⟩ (by simp) rfl : t9B P N b oo m c ii z 5 (vs 5) W)
        rw [e5] at hK ⊢
        rw [if_pos (by rfl)]
        simp only [put_someT, setIfInBounds_toArray, set_cons_zero, set_cons_succ] at hK
        have HK := Lib.hid hK
        clear hK he hi hBW
        go_simp
        exact HK.out _ _ (by first | rfl | simp [t9B]) (Below.refl _ _)
       ·simp only [getElem?_toArray, getElem?_cons_zero, getElem?_cons_succ, Option.some.injEq] at ho
        subst ho
        have e6 : vs 6 = .slice (some ⟨b, oo, none⟩) m c := (he ⟨6, .data⟩ (by simp) rfl : t9B P N b oo m c ii z 6 (vs 6) W)
        rw [e6] at hK ⊢
        have e7 : vs 7 = .int .i64 (ii : Int) := (he ⟨7, .data⟩ (by simp) rfl : t9B P N b oo m c ii z 7 (vs 7) W)
        rw [e7] at hK ⊢
        have e5 : vs 5 = .bool false := (he ⟨5, .guard⟩ (by simp) rfl : t9B P N b oo m c ii z 5 (vs 5) W)
        rw [e5] at hK ⊢
        rw [if_pos (by rfl)]
        simp only [put_someT, setIfInBounds_toArray, set_cons_zero, set_cons_succ] at hK
        have HK := Lib.hid hK
        clear hK he hi hBW
        have i1 := HI1.out
        have i2 := HI2.out
        go_simp
        exact HK.out _ _ (by simp [t9B]) (Below.refl _ _)
       ·simp only [getElem?_toArray, getElem?_cons_zero, getElem?_cons_succ, Option.some.injEq] at ho
        subst ho
        have e8 : vs 8 = .pointer (some ⟨b, oo + ii, none⟩) := (he ⟨8, .data⟩ (by simp) rfl : t9B P N b oo m c ii z 8 (vs 8) W)
        rw [e8] at hK ⊢
        have e5 : vs 5 = .bool false := (he ⟨5, .guard⟩ (by simp) rfl : t9B P N b oo m c ii z 5 (vs 5) W)
        rw [e5] at hK ⊢
        rw [if_pos (by rfl)]
        simp only [put_someT, setIfInBounds_toArray, set_cons_zero, set_cons_succ] at hK
        have HK := Lib.hid hK
        clear hK he hi hBW
        have ccE := EW.out
        go_simp
        exact HK.out _ _ rfl (Below.refl _ _)
       ·simp only [getElem?_toArray, getElem?_cons_zero, getElem?_cons_succ, Option.some.injEq] at ho
        subst ho
        have e5 : vs 5 = .bool false := (he ⟨5, .guard⟩ (by simp) rfl : t9B P N b oo m c ii z 5 (vs 5) W)
        rw [e5] at hK ⊢
        rw [if_pos (by rfl)]
        simp only [put_someT, setIfInBounds_toArray, set_cons_zero, set_cons_succ] at hK
        have HK := Lib.hid hK
        clear hK he hi hBW
        go_simp
        exact HK.out _ _ (by first | rfl | simp [t9B]) (Below.refl _ _)
       ·simp only [getElem?_toArray, getElem?_cons_zero, getElem?_cons_succ, Option.some.injEq] at ho
        subst ho
        have e10 : vs 10 = .pointer (some ⟨P, 0, none⟩) := (he ⟨10, .data⟩ (by simp) rfl : t9B P N b oo m c ii z 10 (vs 10) W)
        rw [e10] at hK ⊢
        have e5 : vs 5 = .bool false := (he ⟨5, .guard⟩ (by simp) rfl : t9B P N b oo m c ii z 5 (vs 5) W)
        rw [e5] at hK ⊢
        rw [if_pos (by rfl)]
        simp only [put_someT, setIfInBounds_toArray, set_cons_zero, set_cons_succ] at hK
        have HK := Lib.hid hK
        clear hK he hi hBW
        have CNT := poolcount_any (PLW.out).at_
        rw [HN.out] at CNT
        go_simp
        go_at_call 33
        refine CNT.mono ?_
        rintro en w9 ⟨rfl, h⟩
        go_simp
        exact HK.out _ _ rfl h
       ·simp only [getElem?_toArray, getElem?_cons_zero, getElem?_cons_succ, Option.some.injEq] at ho
        subst ho
        have e9 : vs 9 = .int .i64 z := (he ⟨9, .data⟩ (by simp) rfl : t9B P N b oo m c ii z 9 (vs 9) W)
        rw [e9] at hK ⊢
        have e11 : vs 11 = .int .i64 (N : Int) := (he ⟨11, .data⟩ (by simp) rfl : t9B P N b oo m c ii z 11 (vs 11) W)
        rw [e11] at hK ⊢
        have e5 : vs 5 = .bool false := (he ⟨5, .guard⟩ (by simp) rfl : t9B P N b oo m c ii z 5 (vs 5) W)
        rw [e5] at hK ⊢
        rw [if_pos (by rfl)]
        simp only [put_someT, setIfInBounds_toArray, set_cons_zero, set_cons_succ] at hK
        have HK := Lib.hid hK
        clear hK he hi hBW
        have hz := HZ2.out
        go_simp
        exact HK.out _ _ (by simp [t9B, hz]) (Below.refl _ _)
       ·simp only [getElem?_toArray, getElem?_cons_zero, getElem?_cons_succ, Option.some.injEq] at ho
        subst ho
        have e5 : vs 5 = .bool false := (he ⟨5, .data⟩ (by simp) rfl : t9B P N b oo m c ii z 5 (vs 5) W)
        rw [e5] at hK ⊢
        have e12 : vs 12 = .bool true := (he ⟨12, .data⟩ (by simp) rfl : t9B P N b oo m c ii z 12 (vs 12) W)
        rw [e12] at hK ⊢
        rw [if_pos (by rfl)]
        simp only [put_someT, setIfInBounds_toArray, set_cons_zero, set_cons_succ] at hK
        have HK := Lib.hid hK
        clear hK he hi hBW
        go_simp
        exact HK.out _ _ (by first | rfl | simp [t9B]) (Below.refl _ _)
      ·intro vs W2 hall hBW
       have e13 : vs 13 = .bool true := (hall 13 (by decide) : t9B P N b oo m c ii z 13 (vs 13) W2)
       simp only [take_succ_cons, take_zero, List.drop_succ_cons, List.drop_zero, fillV, put_someT, put_noneC, setIfInBounds_toArray, set_cons_zero, set_cons_succ]
       rw [e13]
       generalize vs 0 = q0
       generalize vs 1 = q1
       generalize vs 2 = q2
       generalize vs 3 = q3
       generalize vs 4 = q4
       generalize vs 5 = q5
       generalize vs 6 = q6
       generalize vs 7 = q7
       generalize vs 8 = q8
       generalize vs 9 = q9
       generalize vs 10 = q10
       generalize vs 11 = q11
       generalize vs 12 = q12
       have BW2 := Lib.hid (HB.out.trans (hBW.mono HB.out.size))
       clear hall hBW e13
       go_wp2_with fail
       go_ret
       exact ⟨rfl, BW4.out.trans (BW2.out.mono BW4.out.size)⟩
     ·have HNX := Lib.hid (HNX.out (by omega))
      have HZ2 := Lib.hid hz2
      clear hz hz2 i2
      refine wp_region_tail (PP := t9I P N b oo m c ii z) 14 rfl (by kernel_rfl) (by kernel_rfl) (by decide) (by decide) (t9I_mono P N b oo m c ii z) (fun ii => match ii with | 0 => u50 | 1 => u51 | 2 => u52 | 3 => u53 | 4 => u54 | 5 => u55 | 6 => u56 | 7 => u57 | 8 => u58 | 9 => u59 | 10 => u60 | 11 => u61 | 12 => u62 | 13 => u63 | _ => undef) (by simp [fillV, put_someT, setIfInBounds_toArray, set_cons_zero, set_cons_succ]) ?_ ?_
      ·intro i o vs W hi ho he hBW K hK
       simp only [take_succ_cons, take_zero, fillV, put_someT, setIfInBounds_toArray, set_cons_zero, set_cons_succ] at hK ⊢
       have EW := Lib.hid ((hBW.cell (p := ⟨b, oo + ii, none⟩) EB.out).trans E0.out)
       have PLW := Lib.hid (PL.out.then (B34.out.trans ((HB.out.trans (hBW.mono HB.out.size)).mono B34.out.size)))
       obtain rfl | rfl | rfl | rfl | rfl | rfl | rfl | rfl | rfl | rfl | rfl | rfl | rfl | rfl := (show i = 0 ∨ i = 1 ∨ i = 2 ∨ i = 3 ∨ i = 4 ∨ i = 5 ∨ i = 6 ∨ i = 7 ∨ i = 8 ∨ i = 9 ∨ i = 10 ∨ i = 11 ∨ i = 12 ∨ i = 13 by exact (by have : i < 14 := hi; omega))
       ·simp only [getElem?_toArray, getElem?_cons_zero, getElem?_cons_succ, Option.some.injEq] at ho
        subst ho
        rw [if_pos (by rfl)]
        simp only [put_someT, setIfInBounds_toArray, set_cons_zero, set_cons_succ] at hK
        have HK := Lib.hid hK
        clear hK he hi hBW
        go_simp
        exact HK.out _ _ (by first | rfl | simp [t9I]) (Below.refl _ _)
       ·simp only [getElem?_toArray, getElem?_cons_zero, getElem?_cons_succ, Option.some.injEq] at ho
        subst ho
        rw [if_pos (by rfl)]
        simp only [put_someT, setIfInBounds_toArray, set_cons_zero, set_cons_succ] at hK
        have HK := Lib.hid hK
        clear hK he hi hBW
        go_simp
        exact HK.out _ _ (by first | rfl | simp [t9I]) (Below.refl _ _)
       ·simp only [getElem?_toArray, getElem?_cons_zero, getElem?_cons_succ, Option.some.injEq] at ho
        subst ho
        have e0 : vs 0 = .slice (some ⟨b, oo, none⟩) m c := (he ⟨0, .data⟩ (by simp) rfl : t9I P N b oo m c ii z 0 (vs 0) W)
        rw [e0] at hK ⊢
        have e1 : vs 1 = .int .i64 (ii : Int) := (he ⟨1, .data⟩ (by simp) rfl : t9I P N b oo m c ii z 1 (vs 1) W)
        rw [e1] at hK ⊢
        rw [if_pos (by rfl)]
        simp only [put_someT, setIfInBounds_toArray, set_cons_zero, set_cons_succ] at hK
        have HK := Lib.hid hK
        clear hK he hi hBW
        have i1 := HI1.out
        have i2 := HI2.out
        go_simp
        exact HK.out _ _ (by simp [t9I]) (Below.refl _ _)
       ·simp only [getElem?_toArray, getElem?_cons_zero, getElem?_cons_succ, Option.some.injEq] at ho
        subst ho
        have e2 : vs 2 = .pointer (some ⟨b, oo + ii, none⟩) := (he ⟨2, .data⟩ (by simp) rfl : t9I P N b oo m c ii z 2 (vs 2) W)
        rw [e2] at hK ⊢
        rw [if_pos (by rfl)]
        simp only [put_someT, setIfInBounds_toArray, set_cons_zero, set_cons_succ] at hK
        have HK := Lib.hid hK
        clear hK he hi hBW
        have ccE := EW.out
        go_simp
        exact HK.out _ _ rfl (Below.refl _ _)
       ·simp only [getElem?_toArray, getElem?_cons_zero, getElem?_cons_succ, Option.some.injEq] at ho
        subst ho
        have e3 : vs 3 = .int .i64 z := (he ⟨3, .data⟩ (by simp) rfl : t9I P N b oo m c ii z 3 (vs 3) W)
        rw [e3] at hK ⊢
        rw [if_pos (by rfl)]
        simp only [put_someT, setIfInBounds_toArray, set_cons_zero, set_cons_succ] at hK
        have HK := Lib.hid hK
        clear hK he hi hBW
        have hz := HZ.out
        go_simp
        exact HK.out _ _ (by simp [t9I, hz]) (Below.refl _ _)
       ·simp only [getElem?_toArray, getElem?_cons_zero, getElem?_cons_succ, Option.some.injEq] at ho
        subst ho
        have e4 : vs 4 = .bool false := (he ⟨4, .data⟩ (by simp) rfl : t9I P N b oo m c ii z 4 (vs 4) W)
        rw [e4] at hK ⊢
        rw [if_pos (by rfl)]
        simp only [put_someT, setIfInBounds_toArray, set_cons_zero, set_cons_succ] at hK
        have HK := Lib.hid hK
        clear hK he hi hBW
        go_simp
        exact HK.out _ _ (by first | rfl | simp [t9I]) (Below.refl _ _)
       ·simp only [getElem?_toArray, getElem?_cons_zero, getElem?_cons_succ, Option.some.injEq] at ho
        subst ho
        have e5 : vs 5 = .bool false := (he ⟨5, .guard⟩ (by simp) rfl : t9I P N b oo m c ii z 5 (vs 5) W)
        rw [e5] at hK ⊢
        rw [if_pos (by rfl)]
        simp only [put_someT, setIfInBounds_toArray, set_cons_zero, set_cons_succ] at hK
        have HK := Lib.hid hK
        clear hK he hi hBW
        go_simp
        exact HK.out _ _ (by first | rfl | simp [t9I]) (Below.refl _ _)
       ·simp only [getElem?_toArray, getElem?_cons_zero, getElem?_cons_succ, Option.some.injEq] at ho
        subst ho
        have e5 : vs 5 = .bool false := (he ⟨5, .guard⟩ (by simp) rfl : t9I P N b oo m c ii z 5 (vs 5) W)
        rw [e5] at hK ⊢
        rw [if_pos (by rfl)]
        simp only [put_someT, setIfInBounds_toArray, set_cons_zero, set_cons_succ] at hK
        have HK := Lib.hid hK
        clear hK he hi hBW
        go_simp
        exact HK.out _ _ (by first | rfl | simp [t9I]) (Below.refl _ _)
       ·simp only [getElem?_toArray, getElem?_cons_zero, getElem?_cons_succ, Option.some.injEq] at ho
        subst ho
        have e6 : vs 6 = .slice (some ⟨b, oo, none⟩) m c := (he ⟨6, .data⟩ (by simp) rfl : t9I P N b oo m c ii z 6 (vs 6) W)
        rw [e6] at hK ⊢
        have e7 : vs 7 = .int .i64 (ii : Int) := (he ⟨7, .data⟩ (by simp) rfl : t9I P N b oo m c ii z 7 (vs 7) W)
        rw [e7] at hK ⊢
        have e5 : vs 5 = .bool false := (he ⟨5, .guard⟩ (by simp) rfl : t9I P N b oo m c ii z 5 (vs 5) W)
        rw [e5] at hK ⊢
        rw [if_pos (by rfl)]
        simp only [put_someT, setIfInBounds_toArray, set_cons_zero, set_cons_succ] at hK
        have HK := Lib.hid hK
        clear hK he hi hBW
        have i1 := HI1.out
        have i2 := HI2.out
        go_simp
        exact HK.out _ _ (by simp [t9I]) (Below.refl _ _)
       ·simp only [getElem?_toArray, getElem?_cons_zero, getElem?_cons_succ, Option.some.injEq] at ho
        subst ho
        have e8 : vs 8 = .pointer (some ⟨b, oo + ii, none⟩) := (he ⟨8, .data⟩ (by simp) rfl : t9I P N b oo m c ii z 8 (vs 8) W)
        rw [e8] at hK ⊢
        have e5 : vs 5 = .bool false := (he ⟨5, .guard⟩ (by simp) rfl : t9I P N b oo m c ii z 5 (vs 5) W)
        rw [e5] at hK ⊢
        rw [if_pos (by rfl)]
        simp only [put_someT, setIfInBounds_toArray, set_cons_zero, set_cons_succ] at hK
        have HK := Lib.hid hK
        clear hK he hi hBW
        have ccE := EW.out
        go_simp
        exact HK.out _ _ rfl (Below.refl _ _)
       ·simp only [getElem?_toArray, getElem?_cons_zero, getElem?_cons_succ, Option.some.injEq] at ho
        subst ho
        have e5 : vs 5 = .bool false := (he ⟨5, .guard⟩ (by simp) rfl : t9I P N b oo m c ii z 5 (vs 5) W)
        rw [e5] at hK ⊢
        rw [if_pos (by rfl)]
        simp only [put_someT, setIfInBounds_toArray, set_cons_zero, set_cons_succ] at hK
        have HK := Lib.hid hK
        clear hK he hi hBW
        go_simp
        exact HK.out _ _ (by first | rfl | simp [t9I]) (Below.refl _ _)
       ·simp only [getElem?_toArray, getElem?_cons_zero, getElem?_cons_succ, Option.some.injEq] at ho
        subst ho
        have e10 : vs 10 = .pointer (some ⟨P, 0, none⟩) := (he ⟨10, .data⟩ (by simp) rfl : t9I P N b oo m c ii z 10 (vs 10) W)
        rw [e10] at hK ⊢
        have e5 : vs 5 = .bool false := (he ⟨5, .guard⟩ (by simp) rfl : t9I P N b oo m c ii z 5 (vs 5) W)
        rw [e5] at hK ⊢
        rw [if_pos (by rfl)]
        simp only [put_someT, setIfInBounds_toArray, set_cons_zero, set_cons_succ] at hK
        have HK := Lib.hid hK
        clear hK he hi hBW
        have CNT := poolcount_any (PLW.out).at_
        rw [HN.out] at CNT
        go_simp
        go_at_call 33
        refine CNT.mono ?_
        rintro en w9 ⟨rfl, h⟩
        go_simp
        exact HK.out _ _ rfl h
       ·simp only [getElem?_toArray, getElem?_cons_zero, getElem?_cons_succ, Option.some.injEq] at ho
        subst ho
        have e9 : vs 9 = .int .i64 z := (he ⟨9, .data⟩ (by simp) rfl : t9I P N b oo m c ii z 9 (vs 9) W)
        rw [e9] at hK ⊢
        have e11 : vs 11 = .int .i64 (N : Int) := (he ⟨11, .data⟩ (by simp) rfl : t9I P N b oo m c ii z 11 (vs 11) W)
        rw [e11] at hK ⊢
        have e5 : vs 5 = .bool false := (he ⟨5, .guard⟩ (by simp) rfl : t9I P N b oo m c ii z 5 (vs 5) W)
        rw [e5] at hK ⊢
        rw [if_pos (by rfl)]
        simp only [put_someT, setIfInBounds_toArray, set_cons_zero, set_cons_succ] at hK
        have HK := Lib.hid hK
        clear hK he hi hBW
        have hz := HZ2.out
        go_simp
        exact HK.out _ _ (by simp [t9I, hz]) (Below.refl _ _)
       ·simp only [getElem?_toArray, getElem?_cons_zero, getElem?_cons_succ, Option.some.injEq] at ho
        subst ho
        have e5 : vs 5 = .bool false := (he ⟨5, .data⟩ (by simp) rfl : t9I P N b oo m c ii z 5 (vs 5) W)
        rw [e5] at hK ⊢
        have e12 : vs 12 = .bool false := (he ⟨12, .data⟩ (by simp) rfl : t9I P N b oo m c ii z 12 (vs 12) W)
        rw [e12] at hK ⊢
        rw [if_pos (by rfl)]
        simp only [put_someT, setIfInBounds_toArray, set_cons_zero, set_cons_succ] at hK
        have HK := Lib.hid hK
        clear hK he hi hBW
        go_simp
        exact HK.out _ _ (by first | rfl | simp [t9I]) (Below.refl _ _)
      ·intro vs W2 hall hBW
       have e13 : vs 13 = .bool false := (hall 13 (by decide) : t9I P N b oo m c ii z 13 (vs 13) W2)
       simp only [take_succ_cons, take_zero, List.drop_succ_cons, List.drop_zero, fillV, put_someT, put_noneC, setIfInBounds_toArray, set_cons_zero, set_cons_succ]
       rw [e13]
       generalize vs 0 = q0
       generalize vs 1 = q1
       generalize vs 2 = q2
       generalize vs 3 = q3
       generalize vs 4 = q4
       generalize vs 5 = q5
       generalize vs 6 = q6
       generalize vs 7 = q7
       generalize vs 8 = q8
       generalize vs 9 = q9
       generalize vs 10 = q10
       generalize vs 11 = q11
       generalize vs 12 = q12
       have BW2 := Lib.hid (HB.out.trans (hBW.mono HB.out.size))
       clear hall hBW e13
       go_wp2_with fail
       go_roundw
       case rel => exact ⟨ii + 1, by omega, by go_num, HNX.out, BW2.out⟩
       case measure => simp [intOf]; omega
   ·exfalso
    have hbn : badS N S = false := badS_no.2 fun z hz => by
     obtain ⟨k, hk, rfl⟩ := List.getElem_of_mem hz
     exact HR.out k hk (by have := HM.out; omega)
    rw [hb9.out] at hbn; cases hbn
 have hb9 := Lib.hid hb
 clear hb
 go_wp2_with fail
 go_loopw [11] (fun iv wr => ∃ ii : Nat, ii ≤ m ∧ iv = .int .i64 (ii : Int) ∧ Hid (∀ k (hk : k < S.length), k < ii → 0 ≤ S[k] ∧ S[k] < (N : Int)) ∧ Below w4.heap.size w4 wr) (fun iv _ => m - (intOf iv).toNat)
 case atStart => exact ⟨0, by omega, rfl, Lib.hid (by intro k hk h; omega), Below.refl _ _⟩
 case round =>
  obtain ⟨ii, hi, rfl, HR, hB⟩ := hrel
  rename World => wr
  have HB := Lib.hid hB
  by_cases hlt : ii < m
  ·have hil : ii < S.length := by have := HM.out; omega
   have BWR := BW4.out.trans (hB.mono BW4.out.size)
   obtain ⟨b, oo, hA, hb, e0⟩ := ((HS.out.below BWR).more BWR.size).int_at hil
   have HNX := Lib.hid (fun (h : 0 ≤ S[ii] ∧ S[ii] < (N : Int)) => show ∀ k (hk : k < S.length), k < ii + 1 → 0 ≤ S[k] ∧ S[k] < (N : Int) from fun k hk hki => by
    by_cases e : k = ii
    ·subst e; exact h
    ·exact HR.out k hk (by omega))
   have HIN := Lib.hid (fun (h : badS N S = false) => badS_no.1 h S[ii] (List.getElem_mem hil))
   subst hA
   generalize S[ii] = z at *
   have HI1 := Lib.hid (show (0 : Int) ≤ (ii : Int) by omega)
   have HI2 := Lib.hid (show (ii : Int) < (m : Int) by omega)
   have E0 := Lib.hid e0
   have EB := Lib.hid hb
   have i2 := HI2.out
   clear hB e0 hb BWR
   go_wp2_with fail
   have hin := HIN.out hb9.out
   have HNX := Lib.hid (HNX.out hin)
   have HZ := Lib.hid (show ¬ z < 0 by omega)
   have HZ2 := Lib.hid (show ¬ (N : Int) ≤ z by omega)
   clear hin i2
   refine wp_region_tail (PP := t9I P N b oo m c ii z) 14 rfl (by kernel_rfl) (by kernel_rfl) (by decide) (by decide) (t9I_mono P N b oo m c ii z) (fun ii => match ii with | 0 => u50 | 1 => u51 | 2 => u52 | 3 => u53 | 4 => u54 | 5 => u55 | 6 => u56 | 7 => u57 | 8 => u58 | 9 => u59 | 10 => u60 | 11 => u61 | 12 => u62 | 13 => u63 | _ => undef) (by simp [fillV, put_someT, setIfInBounds_toArray, set_cons_zero, set_cons_succ]) ?_ ?_
   ·intro i o vs W hi ho he hBW K hK
    simp only [take_succ_cons, take_zero, fillV, put_someT, setIfInBounds_toArray, set_cons_zero, set_cons_succ] at hK ⊢
    have EW := Lib.hid ((hBW.cell (p := ⟨b, oo + ii, none⟩) EB.out).trans E0.out)
    have PLW := Lib.hid (PL.out.then (B34.out.trans ((HB.out.trans (hBW.mono HB.out.size)).mono B34.out.size)))
    obtain rfl | rfl | rfl | rfl | rfl | rfl | rfl | rfl | rfl | rfl | rfl | rfl | rfl | rfl := (show i = 0 ∨ i = 1 ∨ i = 2 ∨ i = 3 ∨ i = 4 ∨ i = 5 ∨ i = 6 ∨ i = 7 ∨ i = 8 ∨ i = 9 ∨ i = 10 ∨ i = 11 ∨ i = 12 ∨ i = 13 by exact (by have : i < 14 := hi; omega))
    ·simp only [getElem?_toArray, getElem?_cons_zero, getElem?_cons_succ, Option.some.injEq] at ho
     subst ho
     rw [if_pos (by rfl)]
     simp only [put_someT, setIfInBounds_toArray, set_cons_zero, set_cons_succ] at hK
     have HK := Lib.hid hK
     clear hK he hi hBW
     go_simp
     exact HK.out _ _ (by first | rfl | simp [t9I]) (Below.refl _ _)
    ·simp only [getElem?_toArray, getElem?_cons_zero, getElem?_cons_succ, Option.some.injEq] at ho
     subst ho
     rw [if_pos (by rfl)]
     simp only [put_someT, setIfInBounds_toArray, set_cons_zero, set_cons_succ] at hK
     have HK := Lib.hid hK
     clear hK he hi hBW
     go_simp
     exact HK.out _ _ (by first | rfl | simp [t9I]) (Below.refl _ _)
    ·simp only [getElem?_toArray, getElem?_cons_zero, getElem?_cons_succ, Option.some.injEq] at ho
     subst ho
     have e0 : vs 0 = .slice (some ⟨b, oo, none⟩) m c := (he ⟨0, .data⟩ (by simp) rfl : t9I P N b oo m c ii z 0 (vs 0) W)
     rw [e0] at hK ⊢
     have e1 : vs 1 = .int .i64 (ii : Int) := (he ⟨1, .data⟩ (by simp) rfl : t9I P N b oo m c ii z 1 (vs 1) W)
     rw [e1] at hK ⊢
     rw [if_pos (by rfl)]
     simp only [put_someT, setIfInBounds_toArray, set_cons_zero, set_cons_succ] at hK
     have HK := Lib.hid hK
     clear hK he hi hBW
     have i1 := HI1.out
     have i2 := HI2.out
     go_simp
     exact HK.out _ _ (by simp [t9I]) (Below.refl _ _)
    ·simp only [getElem?_toArray, getElem?_cons_zero, getElem?_cons_succ, Option.some.injEq] at ho
     subst ho
     have e2 : vs 2 = .pointer (some ⟨b, oo + ii, none⟩) := (he ⟨2, .data⟩ (by simp) rfl : t9I P N b oo m c ii z 2 (vs 2) W)
     rw [e2] at hK ⊢
     rw [if_pos (by rfl)]
     simp only [put_someT, setIfInBounds_toArray, set_cons_zero, set_cons_succ] at hK
     have HK := Lib.hid hK
     clear hK he hi hBW
     have ccE := EW.out
     go_simp
     exact HK.out _ _ rfl (Below.refl _ _)
    ·simp only [getElem?_toArray, getElem?_cons_zero, getElem?_cons_succ, Option.some.injEq] at ho
     subst ho
     have e3 : vs 3 = .int .i64 z := (he ⟨3, .data⟩ (by simp) rfl : t9I P N b oo m c ii z 3 (vs 3) W)
     rw [e3] at hK ⊢
     rw [if_pos (by rfl)]
     simp only [put_someT, setIfInBounds_toArray, set_cons_zero, set_cons_succ] at hK
     have HK := Lib.hid hK
     clear hK he hi hBW
     have hz := HZ.out
     go_simp
     exact HK.out _ _ (by simp [t9I, hz]) (Below.refl _ _)
    ·simp only [getElem?_toArray, getElem?_cons_zero, getElem?_cons_succ, Option.some.injEq] at ho
     subst ho
     have e4 : vs 4 = .bool false := (he ⟨4, .data⟩ (by simp) rfl : t9I P N b oo m c ii z 4 (vs 4) W)
     rw [e4] at hK ⊢
     rw [if_pos (by rfl)]
     simp only [put_someT, setIfInBounds_toArray, set_cons_zero, set_cons_succ] at hK
     have HK := Lib.hid hK
     clear hK he hi hBW
     go_simp
     exact HK.out _ _ (by first | rfl | simp [t9I]) (Below.refl _ _)
    ·simp only [getElem?_toArray, getElem?_cons_zero, getElem?_cons_succ, Option.some.injEq] at ho
     subst ho
     have e5 : vs 5 = .bool false := (he ⟨5, .guard⟩ (by simp) rfl : t9I P N b oo m c ii z 5 (vs 5) W)
     rw [e5] at hK ⊢
     rw [if_pos (by rfl)]
     simp only [put_someT, setIfInBounds_toArray, set_cons_zero, set_cons_succ] at hK
     have HK := Lib.hid hK
     clear hK he hi hBW
     go_simp
     exact HK.out _ _ (by first | rfl | simp [t9I]) (Below.refl _ _)
    ·simp only [getElem?_toArray, getElem?_cons_zero, getElem?_cons_succ, Option.some.injEq] at ho
     subst ho
     have e5 : vs 5 = .bool false := (he ⟨5, .guard⟩ (by simp) rfl : t9I P N b oo m c ii z 5 (vs 5) W)
     rw [e5] at hK ⊢
     rw [if_pos (by rfl)]
     simp only [put_someT, setIfInBounds_toArray, set_cons_zero, set_cons_succ] at hK
     have HK := Lib.hid hK
     clear hK he hi hBW
     go_simp
     exact HK.out _ _ (by first | rfl | simp [t9I]) (Below.refl _ _)
    ·simp only [getElem?_toArray, getElem?_cons_zero, getElem?_cons_succ, Option.some.injEq] at ho
     subst ho
     have e6 : vs 6 = .slice (some ⟨b, oo, none⟩) m c := (he ⟨6, .data⟩ (by simp) rfl : t9I P N b oo m c ii z 6 (vs 6) W)
     rw [e6] at hK ⊢
     have e7 : vs 7 = .int .i64 (ii : Int) := (he ⟨7, .data⟩ (by simp) rfl : t9I P N b oo m c ii z 7 (vs 7) W)
     rw [e7] at hK ⊢
     have e5 : vs 5 = .bool false := (he ⟨5, .guard⟩ (by simp) rfl : t9I P N b oo m c ii z 5 (vs 5) W)
     rw [e5] at hK ⊢
     rw [if_pos (by rfl)]
     simp only [put_someT, setIfInBounds_toArray, set_cons_zero, set_cons_succ] at hK
     have HK := Lib.hid hK
     clear hK he hi hBW
     have i1 := HI1.out
     have i2 := HI2.out
     go_simp
     exact HK.out _ _ (by simp [t9I]) (Below.refl _ _)
    ·simp only [getElem?_toArray, getElem?_cons_zero, getElem?_cons_succ, Option.some.injEq] at ho
     subst ho
     have e8 : vs 8 = .pointer (some ⟨b, oo + ii, none⟩) := (he ⟨8, .data⟩ (by simp) rfl : t9I P N b oo m c ii z 8 (vs 8) W)
     rw [e8] at hK ⊢
     have e5 : vs 5 = .bool false := (he ⟨5, .guard⟩ (by simp) rfl : t9I P N b oo m c ii z 5 (vs 5) W)
     rw [e5] at hK ⊢
     rw [if_pos (by rfl)]
     simp only [put_someT, setIfInBounds_toArray, set_cons_zero, set_cons_succ] at hK
     have HK := Lib.hid hK
     clear hK he hi hBW
     have ccE := EW.out
     go_simp
     exact HK.out _ _ rfl (Below.refl _ _)
    ·simp only [getElem?_toArray, getElem?_cons_zero, getElem?_cons_succ, Option.some.injEq] at ho
     subst ho
     have e5 : vs 5 = .bool false := (he ⟨5, .guard⟩ (by simp) rfl : t9I P N b oo m c ii z 5 (vs 5) W)
     rw [e5] at hK ⊢
     rw [if_pos (by rfl)]
     simp only [put_someT, setIfInBounds_toArray, set_cons_zero, set_cons_succ] at hK
     have HK := Lib.hid hK
     clear hK he hi hBW
     go_simp
     exact HK.out _ _ (by first | rfl | simp [t9I]) (Below.refl _ _)
    ·simp only [getElem?_toArray, getElem?_cons_zero, getElem?_cons_succ, Option.some.injEq] at ho
     subst ho
     have e10 : vs 10 = .pointer (some ⟨P, 0, none⟩) := (he ⟨10, .data⟩ (by simp) rfl : t9I P N b oo m c ii z 10 (vs 10) W)
     rw [e10] at hK ⊢
     have e5 : vs 5 = .bool false := (he ⟨5, .guard⟩ (by simp) rfl : t9I P N b oo m c ii z 5 (vs 5) W)
     rw [e5] at hK ⊢
     rw [if_pos (by rfl)]
     simp only [put_someT, setIfInBounds_toArray, set_cons_zero, set_cons_succ] at hK
     have HK := Lib.hid hK
     clear hK he hi hBW
     have CNT := poolcount_any (PLW.out).at_
     rw [HN.out] at CNT
     go_simp
     go_at_call 33
     refine CNT.mono ?_
     rintro en w9 ⟨rfl, h⟩
     go_simp
     exact HK.out _ _ rfl h
    ·simp only [getElem?_toArray, getElem?_cons_zero, getElem?_cons_succ, Option.some.injEq] at ho
     subst ho
     have e9 : vs 9 = .int .i64 z := (he ⟨9, .data⟩ (by simp) rfl : t9I P N b oo m c ii z 9 (vs 9) W)
     rw [e9] at hK ⊢
     have e11 : vs 11 = .int .i64 (N : Int) := (he ⟨11, .data⟩ (by simp) rfl : t9I P N b oo m c ii z 11 (vs 11) W)
     rw [e11] at hK ⊢
     have e5 : vs 5 = .bool false := (he ⟨5, .guard⟩ (by simp) rfl : t9I P N b oo m c ii z 5 (vs 5) W)
     rw [e5] at hK ⊢
     rw [if_pos (by rfl)]
     simp only [put_someT, setIfInBounds_toArray, set_cons_zero, set_cons_succ] at hK
     have HK := Lib.hid hK
     clear hK he hi hBW
     have hz := HZ2.out
     go_simp
     exact HK.out _ _ (by simp [t9I, hz]) (Below.refl _ _)
    ·simp only [getElem?_toArray, getElem?_cons_zero, getElem?_cons_succ, Option.some.injEq] at ho
     subst ho
     have e5 : vs 5 = .bool false := (he ⟨5, .data⟩ (by simp) rfl : t9I P N b oo m c ii z 5 (vs 5) W)
     rw [e5] at hK ⊢
     have e12 : vs 12 = .bool false := (he ⟨12, .data⟩ (by simp) rfl : t9I P N b oo m c ii z 12 (vs 12) W)
     rw [e12] at hK ⊢
     rw [if_pos (by rfl)]
     simp only [put_someT, setIfInBounds_toArray, set_cons_zero, set_cons_succ] at hK
     have HK := Lib.hid hK
     clear hK he hi hBW
     go_simp
     exact HK.out _ _ (by first | rfl | simp [t9I]) (Below.refl _ _)
   ·intro vs W2 hall hBW
    have e13 : vs 13 = .bool false := (hall 13 (by decide) : t9I P N b oo m c ii z 13 (vs 13) W2)
    simp only [take_succ_cons, take_zero, List.drop_succ_cons, List.drop_zero, fillV, put_someT, put_noneC, setIfInBounds_toArray, set_cons_zero, set_cons_succ]
    rw [e13]
    generalize vs 0 = q0
    generalize vs 1 = q1
    generalize vs 2 = q2
    generalize vs 3 = q3
    generalize vs 4 = q4
    generalize vs 5 = q5
    generalize vs 6 = q6
    generalize vs 7 = q7
    generalize vs 8 = q8
    generalize vs 9 = q9
    generalize vs 10 = q10
    generalize vs 11 = q11
    generalize vs 12 = q12
    have BW2 := Lib.hid (HB.out.trans (hBW.mono HB.out.size))
    clear hall hBW e13
    go_wp2_with fail
    go_roundw
    case rel => exact ⟨ii + 1, by omega, by go_num, HNX.out, BW2.out⟩
    case measure => simp [intOf]; omega
  ·obtain rfl : ii = m := by omega
   have j1 : ¬ (ii : Int) < (ii : Int) := by omega
   have BWR := Lib.hid (B34.out.trans (hB.mono B34.out.size))
   have HBL := Lib.hid (show badS L.length S = false from HN.out.symm ▸ hb9.out)
   have LR2 := Lib.hid ((LR.out.below hB).more hB.size)
   have AP := Lib.hid (show Calls Tryz.prog 24 #[.pointer (some ⟨P, 0, none⟩), .slice LA ln lc] wr fun e w' => ∃ A2 c2 sn, e = .returned (.tuple #[.slice A2 sn c2, .int .i64 0]) ∧ (sn = (applyV N I0 (stepsV L I0 S)).length ∧ Rd encI 1 w'.heap.size A2 c2 (applyV N I0 (stepsV L I0 S)) w') ∧ Below wr.heap.size wr w' from by
    have h := stapply_any (ins := I0) (PL.out.then BWR.out) LA lc (stepsV L I0 S) LR2.out (by have := stepsV_len HL1.out HBL.out; have h2 := chgs_le (I0 := I0) (S := S) L.length; have := HN.out; omega) (by have := HN.out; omega) HL1.out
    rw [HLN.out, applyE_steps HL1.out HBL.out, HN.out] at h
    refine h.mono ?_
    rintro e w' ⟨v, rfl, ho, hb'⟩
    obtain ⟨A2, c2, rfl, hrd⟩ := ho.rd (fun _ => rfl)
    exact ⟨A2, c2, _, rfl, ⟨rfl, hrd⟩, hb'⟩)
   clear LR hB HB HR
   go_wp2_with fail
   go_at_call 24
   refine AP.out.mono ?_
   rintro e w5 ⟨SA, sc, sn, rfl, ⟨hsn, hsr⟩, hb5⟩
   have SR := Lib.hid hsr
   have HSN := Lib.hid hsn
   have LR5 := Lib.hid ((LR2.out.below hb5).more hb5.size)
   have B35 := Lib.hid (BWR.out.trans (hb5.mono BWR.out.size))
   have BW5 := Lib.hid (BW3.out.trans (B35.out.mono BW3.out.size))
   clear hsr hsn hb5 AP LR2 BWR B34 BW4
   obtain ⟨i0, hi, hz0, hz1, hz2⟩ := info_parts infoIntA
   go_wp2_with fail
   go_loopw [14, 15, 16] (fun kv nv iv wx => ∃ n : Nat, n ≤ N ∧ iv = .int .i64 (n : Int) ∧ kv = .int .i64 ((St.chgs I0 S 0 n).length : Int) ∧ Own encI 1 w5.heap.size 3 nv (nowV I0 n) wx ∧ Below w5.heap.size w5 wx) (fun _ _ iv _ => N - (intOf iv).toNat)
   case atStart => exact ⟨0, by omega, rfl, by rw [chgs_self]; rfl, Own.nil_ _ _ _, Below.refl _ _⟩
   case round =>
    obtain ⟨n, hn, rfl, rfl, how, hB⟩ := hrel
    rename World => wx
    have OV := Lib.hid how
    have HB := Lib.hid hB
    have BX := Lib.hid (B35.out.trans (hB.mono B35.out.size))
    have CNT := Lib.hid (fun W (hb : Below w3.heap.size w3 W) => HN.out ▸ poolcount_any (PL.out.then hb).at_)
    have INS := Lib.hid (fun W (hb : Below w3.heap.size w3 W) => poolinst_any (PL.out.then hb).at_)
    have HCL := Lib.hid (chgs_le (I0 := I0) (S := S) n)
    obtain ⟨k, hk⟩ : ∃ k, (St.chgs I0 S 0 n).length = k := ⟨_, rfl⟩
    have HKK := Lib.hid hk
    rw [hk] at HCL ⊢
    obtain ⟨NA, nc, rfl⟩ := own_shape how
    obtain ⟨nn, hnn⟩ : ∃ nn, (nowV I0 n).length = nn := ⟨_, rfl⟩
    have HNN := Lib.hid hnn
    rw [hnn] at OV ⊢
    have hkn : k ≤ n := HCL.out
    have hnn2 : nn ≤ n := by have := nowV_len I0 n; omega
    clear how hB hk hnn
    go_wp2_with fail
    go_at_call 33
    refine (CNT.out wx BX.out).mono ?_
    rintro e w6 ⟨rfl, hb6⟩
    have B6 := Lib.hid (HB.out.trans (hb6.mono HB.out.size))
    have OV6 := Lib.hid (Own.below OV.out hb6 (Nat.le_refl _))
    have BX6 := Lib.hid (BX.out.trans (hb6.mono BX.out.size))
    clear hb6 OV HB BX CNT
    by_cases hlt : n < N
    ·have i1 : (n : Int) < (N : Int) := by omega
     have hnl : n < L.length := by have := HN.out; omega
     have HC1 := Lib.hid (fun W (hb : Below w.heap.size w W) => show Calls Tryz.prog 34 #[  .slice A ii c, .int .i64 (n : Int)] W fun e w' => e = .returned (.bool (S.contains (n : Int))) ∧ Below W.heap.size W w' from HM.out ▸ has30_any A c S (n : Int) W (by have := HM.out; omega) ((HS.out.below hb).more hb.size))
     have HC2 := Lib.hid (fun W (hb : Below w5.heap.size w5 W) => show Calls Tryz.prog 34 #[.slice SA sn sc, .int .i64 (n : Int)] W fun e w' => e = .returned (.bool (S.contains (n : Int))) ∧ Below W.heap.size W w' from by
      have h := has30_any SA sc (applyV N I0 (stepsV L I0 S)) (n : Int) W (by rw [← HN.out]; exact applyV_le (by have := HN.out; omega)) ((SR.out.below hb).more hb.size)
      rw [← HSN.out, ← HN.out, apply_has HL1.out HBL.out hnl] at h
      exact h)
     have HCI := Lib.hid (contains_inS (S := S) n)
     obtain ⟨cin, hcin⟩ : ∃ cin, S.contains (n : Int) = cin := ⟨_, rfl⟩
     rw [hcin] at HC1 HC2 HCI
     clear hcin
     go_wp2_with fail
     go_at_call 34
     refine (HC1.out w6 (BW5.out.trans (B6.out.mono BW5.out.size))).mono ?_
     rintro e w7 ⟨rfl, hb7⟩
     have B7 := Lib.hid (B6.out.trans (hb7.mono B6.out.size))
     have OV7 := Lib.hid (Own.below OV6.out hb7 (Nat.le_refl _))
     have BX7 := Lib.hid (BX6.out.trans (hb7.mono BX6.out.size))
     clear hb7 OV6 B6 BX6 HC1
     go_wp2_with fail
     go_at_call 34
     refine (HC2.out w7 B7.out).mono ?_
     rintro e w8 ⟨rfl, hb8⟩
     have B8 := Lib.hid (B7.out.trans (hb8.mono B7.out.size))
     have OV8 := Lib.hid (Own.below OV7.out hb8 (Nat.le_refl _))
     have BX8 := Lib.hid (BX7.out.trans (hb8.mono BX7.out.size))
     clear hb8 OV7 B7 BX7 HC2
     have HCG := Lib.hid (show St.chg I0 S n = (cin != decide (n < I0)) from by unfold St.chg; rw [← HCI.out])
     have HNS := Lib.hid (nowV_succ I0 n)
     cases cin
     ·by_cases hni : n < I0
      ·have hn2 : (n : Int) < (I0 : Int) := by omega
       go_wp2_with fail
       go_at_call 35
       refine (INS.out w8 BX8.out).mono ?_
       rintro e w9 ⟨rfl, hb9⟩
       have B9 := Lib.hid (B8.out.trans (hb9.mono B8.out.size))
       have OV9 := Lib.hid (Own.below OV8.out hb9 (Nat.le_refl _))
       have BX9 := Lib.hid (BX8.out.trans (hb9.mono BX8.out.size))
       clear hb9 OV8 B8 BX8
       go_wp2_with (at_builtin; refine wpList_append_own _ rfl _ _ 42 rfl w5.heap.size 3 i0 (.int .i64 0) 1 8 Tryz.underlying42 hi hz0 hz1 hz2 rfl (by decide) _ _ _ rfl (World.ownsRow.alloc OV9.out _) ⟨w9.heap.size, 0, none⟩ 1 1 [.int .i64 (n : Int)] rfl rfl ?c1 ?c2 ?c3 ?c4 ?c5 ?c6)
       case c1 => exact cell_one_new _ _ _
       case c2 => simp [Value.oneCell']
       case c3 => have := HNN.out; unfold maxLen; omega
       case c4 => have := HNN.out; omega
       case c5 => simp only [World.size_alloc]; have := B9.out.size; omega
       case c6 =>
        intro v' wc ho6 hg6 _
        have B10 := Lib.hid ((B9.out.alloc B9.out.size _).grown hg6 (by simp only [World.size_alloc]; have := B9.out.size; omega) (fun j hj => (World.ownsRow.lt OV9.out j hj).1))
        have BX10 := Lib.hid (B35.out.trans (B10.out.mono B35.out.size))
        have OV10 := Lib.hid (Own.snoc (x := (n : Int)) ho6)
        clear ho6 hg6 OV9 B9 BX9
        obtain ⟨NA2, nc2, rfl⟩ := own_shape OV10.out
        obtain ⟨nn2, hnn3⟩ : ∃ q, (nowV I0 n ++ [(n : Int)]).length = q := ⟨_, rfl⟩
        rw [hnn3] at OV10
        skip
        go_wp2_with fail
        go_at_call 35
        refine (INS.out wc BX10.out).mono ?_
        rintro e w11 ⟨rfl, hb9⟩
        have B11 := Lib.hid (B10.out.trans (hb9.mono B10.out.size))
        have OV11 := Lib.hid (Own.below OV10.out hb9 (Nat.le_refl _))
        have BX11 := Lib.hid (BX10.out.trans (hb9.mono BX10.out.size))
        clear hb9 OV10 B10 BX10
        have HCT := Lib.hid (show St.chg I0 S n = true from by rw [HCG.out]; simp [hni])
        have HKC := Lib.hid (show (St.chgs I0 S 0 (n + 1)).length = k + 1 from by rw [chgs_one, HCT.out]; simp [HKK.out])
        obtain ⟨hk1, hk2⟩ := steps_here HL1.out HBL.out hnl HCT.out
        rw [HKK.out] at hk1 hk2
        have BL11 := (LR5.out.below B11.out).more B11.out.size
        obtain ⟨lb, lo, hLA, hlb, l0, l1⟩ := BL11.st_at hk1
        rw [List.getElem?_eq_getElem hk1, Option.some.injEq] at hk2
        rw [hk2] at l0 l1
        subst hLA
        have hkl : (k : Int) < (ln : Int) := by have := HLN.out; omega
        have hk0 : (0 : Int) ≤ (k : Int) := by omega
        have KC := Lib.hid (fun W => show Calls Tryz.prog 28 #[.int .u8 (knd L I0 S n)] W fun e w' => e = .returned (.bool false) ∧ Below W.heap.size W w' from by have h := stcomes_any (knd L I0 S n) W; rw [knd_comes, decide_eq_true (by omega)] at h; exact h)
        have KG := Lib.hid (fun W => show Calls Tryz.prog 30 #[.int .u8 (knd L I0 S n)] W fun e w' => e = .returned (.bool true) ∧ Below W.heap.size W w' from by have h := stgoesk_any (knd L I0 S n) W; rw [knd_goes, decide_eq_true (by omega)] at h; exact h)
        have L1 := Lib.hid l1
        have L0 := Lib.hid l0
        have LB := Lib.hid hlb
        generalize knd L I0 S n = kd at *
        clear hk2 BL11 HCG HCT
        go_wp2_with fail
        go_at_call 28
        refine (KC.out _).mono ?_
        rintro e wa ⟨rfl, hba⟩
        have Ba := Lib.hid (B11.out.trans (hba.mono B11.out.size))
        have OVa := Lib.hid (Own.below OV11.out hba (Nat.le_refl _))
        have l0a := (hba.cell (p := ⟨lb, _, none⟩) LB.out).trans L0.out
        clear hba OV11 B11 BX11 KC l0 l1
        go_wp2_with fail
        go_at_call 30
        refine (KG.out _).mono ?_
        rintro e wb ⟨rfl, hbb⟩
        have Bb := Lib.hid (Ba.out.trans (hbb.mono Ba.out.size))
        have OVb := Lib.hid (Own.below OVa.out hbb (Nat.le_refl _))
        clear hbb OVa Ba KG l0a
        go_wp2_with fail
        go_roundw
        case rel => exact ⟨n + 1, by omega, by go_num, by rw [HKC.out]; go_num, by rw [HNS.out, if_pos (by omega)]; exact OVb.out, Bb.out⟩
        case measure => simp [intOf]; omega
      ·have hn2 : ¬ (n : Int) < (I0 : Int) := by omega
       go_wp2_with fail
       go_at_call 35
       refine (INS.out w8 BX8.out).mono ?_
       rintro e w9 ⟨rfl, hb9⟩
       have B9 := Lib.hid (B8.out.trans (hb9.mono B8.out.size))
       have OV9 := Lib.hid (Own.below OV8.out hb9 (Nat.le_refl _))
       have BX9 := Lib.hid (BX8.out.trans (hb9.mono BX8.out.size))
       clear hb9 OV8 B8 BX8
       go_wp2_with fail
       go_at_call 35
       refine (INS.out w9 BX9.out).mono ?_
       rintro e w10 ⟨rfl, hb9⟩
       have B10 := Lib.hid (B9.out.trans (hb9.mono B9.out.size))
       have OV10 := Lib.hid (Own.below OV9.out hb9 (Nat.le_refl _))
       have BX10 := Lib.hid (BX9.out.trans (hb9.mono BX9.out.size))
       clear hb9 OV9 B9 BX9
       have HKC := Lib.hid (show St.chgs I0 S 0 (n + 1) = St.chgs I0 S 0 n from by rw [chgs_one, HCG.out, if_neg (by simp [hni])]; simp)
       go_wp2_with fail
       go_roundw
       case rel => exact ⟨n + 1, by omega, by go_num, by rw [HKC.out, HKK.out], by rw [HNS.out, if_neg (by omega)]; simpa using OV10.out, B10.out⟩
       case measure => simp [intOf]; omega
     ·by_cases hni : n < I0
      ·have hn2 : (n : Int) < (I0 : Int) := by omega
       go_wp2_with fail
       go_at_call 35
       refine (INS.out w8 BX8.out).mono ?_
       rintro e w9 ⟨rfl, hb9⟩
       have B9 := Lib.hid (B8.out.trans (hb9.mono B8.out.size))
       have OV9 := Lib.hid (Own.below OV8.out hb9 (Nat.le_refl _))
       have BX9 := Lib.hid (BX8.out.trans (hb9.mono BX8.out.size))
       clear hb9 OV8 B8 BX8
       go_wp2_with (at_builtin; refine wpList_append_own _ rfl _ _ 42 rfl w5.heap.size 3 i0 (.int .i64 0) 1 8 Tryz.underlying42 hi hz0 hz1 hz2 rfl (by decide) _ _ _ rfl (World.ownsRow.alloc OV9.out _) ⟨w9.heap.size, 0, none⟩ 1 1 [.int .i64 (n : Int)] rfl rfl ?c1 ?c2 ?c3 ?c4 ?c5 ?c6)
       case c1 => exact cell_one_new _ _ _
       case c2 => simp [Value.oneCell']
       case c3 => have := HNN.out; unfold maxLen; omega
       case c4 => have := HNN.out; omega
       case c5 => simp only [World.size_alloc]; have := B9.out.size; omega
       case c6 =>
        intro v' wc ho6 hg6 _
        have B10 := Lib.hid ((B9.out.alloc B9.out.size _).grown hg6 (by simp only [World.size_alloc]; have := B9.out.size; omega) (fun j hj => (World.ownsRow.lt OV9.out j hj).1))
        have BX10 := Lib.hid (B35.out.trans (B10.out.mono B35.out.size))
        have OV10 := Lib.hid (Own.snoc (x := (n : Int)) ho6)
        clear ho6 hg6 OV9 B9 BX9
        obtain ⟨NA2, nc2, rfl⟩ := own_shape OV10.out
        obtain ⟨nn2, hnn3⟩ : ∃ q, (nowV I0 n ++ [(n : Int)]).length = q := ⟨_, rfl⟩
        rw [hnn3] at OV10
        skip
        go_wp2_with fail
        go_at_call 35
        refine (INS.out wc BX10.out).mono ?_
        rintro e w11 ⟨rfl, hb9⟩
        have B11 := Lib.hid (B10.out.trans (hb9.mono B10.out.size))
        have OV11 := Lib.hid (Own.below OV10.out hb9 (Nat.le_refl _))
        have BX11 := Lib.hid (BX10.out.trans (hb9.mono BX10.out.size))
        clear hb9 OV10 B10 BX10
        have HKC := Lib.hid (show St.chgs I0 S 0 (n + 1) = St.chgs I0 S 0 n from by rw [chgs_one, HCG.out, if_neg (by simp [hni])]; simp)
        go_wp2_with fail
        go_roundw
        case rel => exact ⟨n + 1, by omega, by go_num, by rw [HKC.out, HKK.out], by rw [HNS.out, if_pos (by omega)]; exact OV11.out, B11.out⟩
        case measure => simp [intOf]; omega
      ·have hn2 : ¬ (n : Int) < (I0 : Int) := by omega
       go_wp2_with fail
       go_at_call 35
       refine (INS.out w8 BX8.out).mono ?_
       rintro e w9 ⟨rfl, hb9⟩
       have B9 := Lib.hid (B8.out.trans (hb9.mono B8.out.size))
       have OV9 := Lib.hid (Own.below OV8.out hb9 (Nat.le_refl _))
       have BX9 := Lib.hid (BX8.out.trans (hb9.mono BX8.out.size))
       clear hb9 OV8 B8 BX8
       go_wp2_with fail
       go_at_call 35
       refine (INS.out w9 BX9.out).mono ?_
       rintro e w10 ⟨rfl, hb9⟩
       have B10 := Lib.hid (B9.out.trans (hb9.mono B9.out.size))
       have OV10 := Lib.hid (Own.below OV9.out hb9 (Nat.le_refl _))
       have BX10 := Lib.hid (BX9.out.trans (hb9.mono BX9.out.size))
       clear hb9 OV9 B9 BX9
       have HCT := Lib.hid (show St.chg I0 S n = true from by rw [HCG.out]; simp [hni])
       have HKC := Lib.hid (show (St.chgs I0 S 0 (n + 1)).length = k + 1 from by rw [chgs_one, HCT.out]; simp [HKK.out])
       obtain ⟨hk1, hk2⟩ := steps_here HL1.out HBL.out hnl HCT.out
       rw [HKK.out] at hk1 hk2
       have BL10 := (LR5.out.below B10.out).more B10.out.size
       obtain ⟨lb, lo, hLA, hlb, l0, l1⟩ := BL10.st_at hk1
       rw [List.getElem?_eq_getElem hk1, Option.some.injEq] at hk2
       rw [hk2] at l0 l1
       subst hLA
       have hkl : (k : Int) < (ln : Int) := by have := HLN.out; omega
       have hk0 : (0 : Int) ≤ (k : Int) := by omega
       have KC := Lib.hid (fun W => show Calls Tryz.prog 28 #[.int .u8 (knd L I0 S n)] W fun e w' => e = .returned (.bool true) ∧ Below W.heap.size W w' from by have h := stcomes_any (knd L I0 S n) W; rw [knd_comes, decide_eq_false (by omega)] at h; exact h)
       have KG := Lib.hid (fun W => show Calls Tryz.prog 30 #[.int .u8 (knd L I0 S n)] W fun e w' => e = .returned (.bool false) ∧ Below W.heap.size W w' from by have h := stgoesk_any (knd L I0 S n) W; rw [knd_goes, decide_eq_false (by omega)] at h; exact h)
       have L1 := Lib.hid l1
       have L0 := Lib.hid l0
       have LB := Lib.hid hlb
       generalize knd L I0 S n = kd at *
       clear hk2 BL10 HCG HCT
       go_wp2_with fail
       go_at_call 28
       refine (KC.out _).mono ?_
       rintro e wa ⟨rfl, hba⟩
       have Ba := Lib.hid (B10.out.trans (hba.mono B10.out.size))
       have OVa := Lib.hid (Own.below OV10.out hba (Nat.le_refl _))
       have l0a := (hba.cell (p := ⟨lb, _, none⟩) LB.out).trans L0.out
       clear hba OV10 B10 BX10 KC l0 l1
       go_wp2_with fail
       go_at_call 30
       refine (KG.out _).mono ?_
       rintro e wb ⟨rfl, hbb⟩
       have Bb := Lib.hid (Ba.out.trans (hbb.mono Ba.out.size))
       have OVb := Lib.hid (Own.below OVa.out hbb (Nat.le_refl _))
       clear hbb OVa Ba KG l0a
       go_wp2_with fail
       go_roundw
       case rel => exact ⟨n + 1, by omega, by go_num, by rw [HKC.out]; go_num, by rw [HNS.out, if_neg (by omega)]; simpa using OVb.out, Bb.out⟩
       case measure => simp [intOf]; omega
    ·obtain rfl : n = N := by omega
     have j2 : ¬ (n : Int) < (n : Int) := by omega
     have HNE := Lib.hid (show nowV I0 n = (List.range I0).map fun n : Nat => (n : Int) from by unfold nowV; rw [Nat.min_eq_right hIN])
     obtain ⟨NA2, nc2, hNE, hrd⟩ := OV6.out.rd (fun _ => rfl)
     simp only [Value.slice.injEq] at hNE
     obtain ⟨rfl, hx9, rfl⟩ := hNE
     clear hx9
     have RD6 := Lib.hid (HNE.out ▸ hrd)
     have HNI := Lib.hid (show ((List.range I0).map fun n : Nat => (n : Int)).length = nn from by rw [← HNE.out]; exact HNN.out)
     have HBN := Lib.hid (show badS n ((List.range I0).map fun n : Nat => (n : Int)) = false from badS_no.2 fun z hz => by
      obtain ⟨q, hq, rfl⟩ := List.mem_map.1 hz
      have := List.mem_range.1 hq
      omega)
     have HKE := Lib.hid (show k = ln from by rw [← HKK.out, ← HLN.out, stepsV_len HL1.out HBL.out, HN.out])
     have OFN := Lib.hid (OF.out w6 BX6.out NA nc ((List.range I0).map fun n : Nat => (n : Int)) nn HNI.out RD6.out (by omega))
     rw [none_now HL1.out, HBN.out] at OFN
     obtain rfl : k = ln := HKE.out
     clear hrd OF
     go_wp2_with fail
     go_at_call 22
     refine OFN.out.mono ?_
     rintro e w7 ⟨NA3, nc3, rfl, _, hb7⟩
     have B7 := Lib.hid (B6.out.trans (hb7.mono B6.out.size))
     clear hb7 OFN
     go_wp2_with fail
     go_ret
     exact ⟨rfl, BW5.out.trans (B7.out.mono BW5.out.size)⟩
end Go.Proofs.YtibeipmcggbbgaaGreatDoor
