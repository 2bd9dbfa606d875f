/- StSmall -/
import Derived.Test.YtibeipmcggbbgaaGreatDoorStepsThereRowG27
import Derived.BigQuiet
set_option linter.unusedSimpArgs false
set_option linter.unusedVariables false
/- Walks: the small functions of the steps' statements. -/


namespace Go.Proofs.YtibeipmcggbbgaaGreatDoor
open Go.RowKit Go.Shelf
set_option linter.unusedVariables false

def comesKB (k : Int) : Bool := decide (1 ≤ k) && decide (k ≤ 5)
def goesKB (k : Int) : Bool := decide (6 ≤ k) && decide (k ≤ 8)
def encSt (x : Int × Int) : List Value := [.int .u8 x.1, .int .i64 x.2]
theorem encSt_len (x : Int × Int) : (encSt x).length = 2 := rfl
theorem Rd.int_at {B : Nat} {A : Option Addr} {c : Nat} {D : List Int} {W : World} (h : Rd encI 1 B A c D W) {k : Nat} (hk : k < D.length) : ∃ b o, A = some ⟨b, o, none⟩ ∧ b < B ∧ W.cell? ⟨b, o + k, none⟩ = some (.int .i64 D[k]) := by
 obtain ⟨b, o, e, hb, hc⟩ := h.cells hk
 have := hc 0 _ rfl
 rw [Nat.mul_one] at this
 exact ⟨b, o, e, hb, this⟩
theorem Rd.st_at {B : Nat} {A : Option Addr} {c : Nat} {D : List (Int × Int)} {W : World} (h : Rd encSt 2 B A c D W) {k : Nat} (hk : k < D.length) : ∃ b o, A = some ⟨b, o, none⟩ ∧ b < B ∧ W.cell? ⟨b, o + k * 2, none⟩ = some (.int .u8 D[k].1) ∧ W.cell? ⟨b, o + k * 2 + 1, none⟩ = some (.int .i64 D[k].2) := by
 obtain ⟨b, o, e, hb, hc⟩ := h.cells hk
 exact ⟨b, o, e, hb, hc 0 _ rfl, hc 1 _ rfl⟩
set_option maxRecDepth 100000 in
theorem stcomes_any (k : Int) (w : World) : Calls Tryz.prog 28 #[.int .u8 k] w fun e w' => e = .returned (.bool (comesKB k)) ∧ Below w.heap.size w w' := by
 by_cases h1 : 1 ≤ k
 ·go_enter Tryz.func28, Tryz.ntmps28
  go_wp2_with fail
  go_ret
  exact ⟨by simp [comesKB, h1], Below.refl _ _⟩
 ·go_enter Tryz.func28, Tryz.ntmps28
  go_wp2_with fail
  go_ret
  exact ⟨by simp [comesKB, h1]; intro h; omega, Below.refl _ _⟩
set_option maxRecDepth 100000 in
theorem stgoesk_any (k : Int) (w : World) : Calls Tryz.prog 30 #[.int .u8 k] w fun e w' => e = .returned (.bool (goesKB k)) ∧ Below w.heap.size w w' := by
 by_cases h1 : 6 ≤ k
 ·go_enter Tryz.func30, Tryz.ntmps30
  go_wp2_with fail
  go_ret
  exact ⟨by simp [goesKB, h1], Below.refl _ _⟩
 ·go_enter Tryz.func30, Tryz.ntmps30
  go_wp2_with fail
  go_ret
  exact ⟨by simp [goesKB, h1]; intro h; omega, Below.refl _ _⟩
set_option maxRecDepth 100000 in
set_option maxHeartbeats 4000000 in
theorem has30_any (A : Option Addr) (c : Nat) (D : List Int) (x : Int) (w : World) (hD : D.length ≤ 1000000) (h : Rd encI 1 w.heap.size A c D w) : Calls Tryz.prog 34 #[.slice A D.length c, .int .i64 x] w fun e w' => e = .returned (.bool (D.contains x)) ∧ Below w.heap.size w w' := by
 have H := Lib.hid h
 obtain ⟨n, hn⟩ : ∃ n, n = D.length := ⟨_, rfl⟩
 rw [← hn] at hD ⊢
 have HN := Lib.hid hn
 obtain ⟨r, hr⟩ : ∃ r, r = D.contains x := ⟨_, rfl⟩
 rw [← hr]
 have RR := Lib.hid hr
 clear h hn hr
 go_enter Tryz.func34, Tryz.ntmps34
 go_wp2_with fail
 go_loopw [5] (fun iv wr => ∃ k : Nat, k ≤ n ∧ iv = .int .i64 (k : Int) ∧ Hid (∀ j (hj : j < D.length), j < k → D[j] ≠ x) ∧ Below w.heap.size w wr) (fun iv _ => n - (intOf iv).toNat)
 case atStart => exact ⟨0, by omega, rfl, Lib.hid (by intro j hj h; omega), Below.refl _ _⟩
 case round =>
  obtain ⟨k, hk, rfl, HS, hB⟩ := hrel
  rename World => wr
  have HB := Lib.hid hB
  by_cases hlt : k < n
  ·have hkl : k < D.length := by have := HN.out; omega
   obtain ⟨b, o, hA, hb, e0⟩ := ((H.out.below hB).more hB.size).int_at hkl
   have HM := Lib.hid (show D[k] ∈ D from List.getElem_mem hkl)
   have HNX := Lib.hid (fun (h : D[k] ≠ x) => show ∀ j (hj : j < D.length), j < k + 1 → D[j] ≠ x from fun j hj hjk => by
    by_cases e : j = k
    ·subst e; exact h
    ·exact HS.out j hj (by omega))
   subst hA
   generalize D[k] = y at *
   have i0 : (0 : Int) ≤ (k : Int) := by omega
   have i1 : (k : Int) < (n : Int) := by omega
   clear hB hkl
   by_cases hy : y = x
   ·have HE := Lib.hid (show D.contains x = true from List.contains_iff_mem.2 (hy ▸ HM.out))
    subst hy
    go_wp2_with fail
    go_ret
    obtain rfl := RR.out.trans HE.out
    exact ⟨rfl, HB.out⟩
   ·go_wp2_with fail
    go_roundw
    case rel => exact ⟨k + 1, by omega, by go_num, Lib.hid (HNX.out hy), HB.out⟩
    case measure => simp [intOf]; omega
  ·obtain rfl : k = n := by omega
   have HE := Lib.hid (show D.contains x = false by
    rw [Bool.eq_false_iff]
    intro hc
    obtain ⟨j, hj, hjx⟩ := List.getElem_of_mem (List.contains_iff_mem.1 hc)
    exact HS.out j hj (by have := HN.out; omega) hjx)
   have i1 : ¬ (k : Int) < (k : Int) := by omega
   go_wp2_with fail
   go_ret
   obtain rfl := RR.out.trans HE.out
   exact ⟨rfl, HB.out⟩
set_option maxRecDepth 100000 in
set_option maxHeartbeats 4000000 in
theorem numbers12_any (A B : Option Addr) (c d : Nat) (D E : List Int) (w : World) (hD : D.length ≤ 1000000) (hE : E.length ≤ 1000000) (h : Rd encI 1 w.heap.size A c D w) (h' : Rd encI 1 w.heap.size B d E w) : Calls Tryz.prog 27 #[.slice A D.length c, .slice B E.length d] w fun e w' => e = .returned (.bool (decide (D = E))) ∧ Below w.heap.size w w' := by
 obtain ⟨r, hr⟩ : ∃ r, r = decide (D = E) := ⟨_, rfl⟩
 rw [← hr]
 have RR := Lib.hid hr
 clear hr
 by_cases hl : D.length = E.length
 ·have H := Lib.hid h
  have H' := Lib.hid h'
  obtain ⟨n, hn⟩ : ∃ n, n = D.length := ⟨_, rfl⟩
  have HN := Lib.hid hn
  have HE := Lib.hid (hn.trans hl)
  rw [← hl, ← hn]
  have hN : n ≤ 1000000 := by omega
  clear hl h h' hD hE hn
  go_enter Tryz.func27, Tryz.ntmps27
  go_wp2_with fail
  go_loopw [5] (fun iv wr => ∃ k : Nat, k ≤ n ∧ iv = .int .i64 (k : Int) ∧ Hid (∀ j, j < k → D[j]? = E[j]?) ∧ Below w.heap.size w wr) (fun iv _ => n - (intOf iv).toNat)
  case atStart => exact ⟨0, by omega, rfl, Lib.hid (by intro j h; omega), Below.refl _ _⟩
  case round =>
   obtain ⟨k, hk, rfl, HS, hB⟩ := hrel
   rename World => wr
   have HB := Lib.hid hB
   by_cases hlt : k < n
   ·have l1 : k < D.length := by have := HN.out; omega
    have l2 : k < E.length := by have := HE.out; omega
    obtain ⟨b, o, hA, hb, e0⟩ := ((H.out.below hB).more hB.size).int_at l1
    obtain ⟨b2, o2, hA2, hb2, f0⟩ := ((H'.out.below hB).more hB.size).int_at l2
    have E1 := Lib.hid (show D[k]? = some D[k] from List.getElem?_eq_getElem l1)
    have E2 := Lib.hid (show E[k]? = some E[k] from List.getElem?_eq_getElem l2)
    subst hA hA2
    generalize D[k] = x at *
    generalize E[k] = y at *
    clear l1 l2 hB
    have i0 : (0 : Int) ≤ (k : Int) := by omega
    have i1 : (k : Int) < (n : Int) := by omega
    by_cases hxy : x = y
    ·subst hxy
     go_wp2_with fail
     go_quiet (fail)
     go_wp2_with fail
     go_roundw
     case rel =>
      refine ⟨k + 1, by omega, by go_num, Lib.hid ?_, Go.below_drewN HB.out _⟩
      intro j hj
      by_cases hjk : j = k
      ·subst hjk; rw [E1.out, E2.out]
      ·exact HS.out j (by omega)
     case measure => simp [intOf]; omega
    ·have HF := Lib.hid (show decide (D = E) = false from decide_eq_false fun h => hxy (by have := E1.out; rw [h, E2.out] at this; exact (Option.some.inj this).symm))
     go_wp2_with fail
     go_quiet (fail)
     go_wp2_with fail
     go_ret
     obtain rfl := RR.out.trans HF.out
     exact ⟨rfl, Go.below_drewN HB.out _⟩
   ·obtain rfl : k = n := by omega
    have HF := Lib.hid (show decide (D = E) = true from decide_eq_true (List.ext_getElem? fun j => by
     by_cases hj : j < k
     ·exact HS.out j hj
     ·rw [List.getElem?_eq_none (by have := HN.out; omega), List.getElem?_eq_none (by have := HE.out; omega)]))
    have i1 : ¬ (k : Int) < (k : Int) := by omega
    go_wp2_with fail
    go_ret
    obtain rfl := RR.out.trans HF.out
    exact ⟨rfl, HB.out⟩
 ·have HF := Lib.hid (show decide (D = E) = false from decide_eq_false fun h => hl (by rw [h]))
  have hl2 : ¬ (D.length : Int) = (E.length : Int) := by omega
  clear h h' hl
  go_enter Tryz.func27, Tryz.ntmps27
  go_wp2_with fail
  go_ret
  obtain rfl := RR.out.trans HF.out
  exact ⟨rfl, Below.refl _ _⟩
set_option maxRecDepth 100000 in
set_option maxHeartbeats 4000000 in
theorem same30_any (A B : Option Addr) (c d : Nat) (D E : List (Int × Int)) (w : World) (hD : D.length ≤ 1000000) (hE : E.length ≤ 1000000) (h : Rd encSt 2 w.heap.size A c D w) (h' : Rd encSt 2 w.heap.size B d E w) : Calls Tryz.prog 26 #[.slice A D.length c, .slice B E.length d] w fun e w' => e = .returned (.bool (decide (D = E))) ∧ Below w.heap.size w w' := by
 obtain ⟨r, hr⟩ : ∃ r, r = decide (D = E) := ⟨_, rfl⟩
 rw [← hr]
 have RR := Lib.hid hr
 clear hr
 by_cases hl : D.length = E.length
 ·have H := Lib.hid h
  have H' := Lib.hid h'
  obtain ⟨n, hn⟩ : ∃ n, n = D.length := ⟨_, rfl⟩
  have HN := Lib.hid hn
  have HE := Lib.hid (hn.trans hl)
  rw [← hl, ← hn]
  have hN : n ≤ 1000000 := by omega
  clear hl h h' hD hE hn
  go_enter Tryz.func26, Tryz.ntmps26
  go_wp2_with fail
  go_loopw [5] (fun iv wr => ∃ k : Nat, k ≤ n ∧ iv = .int .i64 (k : Int) ∧ Hid (∀ j, j < k → D[j]? = E[j]?) ∧ Below w.heap.size w wr) (fun iv _ => n - (intOf iv).toNat)
  case atStart => exact ⟨0, by omega, rfl, Lib.hid (by intro j h; omega), Below.refl _ _⟩
  case round =>
   obtain ⟨k, hk, rfl, HS, hB⟩ := hrel
   rename World => wr
   have HB := Lib.hid hB
   by_cases hlt : k < n
   ·have l1 : k < D.length := by have := HN.out; omega
    have l2 : k < E.length := by have := HE.out; omega
    obtain ⟨b, o, hA, hb, e0, e1⟩ := ((H.out.below hB).more hB.size).st_at l1
    obtain ⟨b2, o2, hA2, hb2, f0, f1⟩ := ((H'.out.below hB).more hB.size).st_at l2
    have E1 := Lib.hid (show D[k]? = some D[k] from List.getElem?_eq_getElem l1)
    have E2 := Lib.hid (show E[k]? = some E[k] from List.getElem?_eq_getElem l2)
    subst hA hA2
    generalize D[k] = x at *
    generalize E[k] = y at *
    clear l1 l2 hB
    have i0 : (0 : Int) ≤ (k : Int) := by omega
    have i1 : (k : Int) < (n : Int) := by omega
    by_cases hxy : x = y
    ·subst hxy
     go_wp2_with fail
     go_quiet (fail)
     go_wp2_with fail
     go_roundw
     case rel =>
      refine ⟨k + 1, by omega, by go_num, Lib.hid ?_, Go.below_drewN HB.out _⟩
      intro j hj
      by_cases hjk : j = k
      ·subst hjk; rw [E1.out, E2.out]
      ·exact HS.out j (by omega)
     case measure => simp [intOf]; omega
    ·have HF := Lib.hid (show decide (D = E) = false from decide_eq_false fun h => hxy (by have := E1.out; rw [h, E2.out] at this; exact (Option.some.inj this).symm))
     obtain ⟨x1, x2⟩ := x
     obtain ⟨y1, y2⟩ := y
     dsimp only at e0 e1 f0 f1
     by_cases h1 : x1 = y1
     ·have h2 : ¬ x2 = y2 := fun h => hxy (by rw [h1, h])
      subst h1
      clear hxy
      go_wp2_with fail
      go_quiet (fail)
      go_wp2_with fail
      go_ret
      obtain rfl := RR.out.trans HF.out
      exact ⟨rfl, Go.below_drewN HB.out _⟩
     ·clear hxy
      go_wp2_with fail
      go_quiet (fail)
      go_wp2_with fail
      go_ret
      obtain rfl := RR.out.trans HF.out
      exact ⟨rfl, Go.below_drewN HB.out _⟩
   ·obtain rfl : k = n := by omega
    have HF := Lib.hid (show decide (D = E) = true from decide_eq_true (List.ext_getElem? fun j => by
     by_cases hj : j < k
     ·exact HS.out j hj
     ·rw [List.getElem?_eq_none (by have := HN.out; omega), List.getElem?_eq_none (by have := HE.out; omega)]))
    have i1 : ¬ (k : Int) < (k : Int) := by omega
    go_wp2_with fail
    go_ret
    obtain rfl := RR.out.trans HF.out
    exact ⟨rfl, HB.out⟩
 ·have HF := Lib.hid (show decide (D = E) = false from decide_eq_false fun h => hl (by rw [h]))
  have hl2 : ¬ (D.length : Int) = (E.length : Int) := by omega
  clear h h' hl
  go_enter Tryz.func26, Tryz.ntmps26
  go_wp2_with fail
  go_ret
  obtain rfl := RR.out.trans HF.out
  exact ⟨rfl, Below.refl _ _⟩
end Go.Proofs.YtibeipmcggbbgaaGreatDoor
