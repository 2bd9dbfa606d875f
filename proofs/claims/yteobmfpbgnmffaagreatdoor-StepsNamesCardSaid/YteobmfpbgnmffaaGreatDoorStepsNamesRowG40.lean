/- StSmall -/
import Derived.Test.YteobmfpbgnmffaaGreatDoorStepsNamesRowG28
import Derived.BigQuiet
set_option linter.unusedSimpArgs false
set_option linter.unusedVariables false
/- Walks: the small functions of the steps' statements. -/


namespace Go.Proofs.YteobmfpbgnmffaaGreatDoor
open Go.RowKit Go.Shelf
set_option linter.unusedVariables false

def comesKB (k : Int) : Bool := decide (1 ≤ k) && decide (k ≤ 5)
def goesKB (k : Int) : Bool := decide (6 ≤ k) && decide (k ≤ 8)
def encSt (x : Int × Int) : List Value := [.int .u8 x.1, .int .i64 x.2]
theorem encSt_len (x : Int × Int) : (encSt x).length = 2 := rfl
theorem Rd.int_at {B : Nat} {A : Option Addr} {c : Nat} {D : List Int} {W : World} (h : Rd encI 1 B A c D W) {k : Nat} (hk : k < D.length) : ∃ b o, A = some ⟨b, o, none⟩ ∧ b < B ∧ W.cell? ⟨b, o + k, none⟩ = some (.int .i64 D[k]) := by
  obtain ⟨b, o, e, hb, hc⟩ := h.cells hk
  have := hc 0 _ rfl
  rw [Nat.mul_one] at this
  exact ⟨b, o, e, hb, this⟩
theorem Rd.st_at {B : Nat} {A : Option Addr} {c : Nat} {D : List (Int × Int)} {W : World} (h : Rd encSt 2 B A c D W) {k : Nat} (hk : k < D.length) : ∃ b o, A = some ⟨b, o, none⟩ ∧ b < B ∧ W.cell? ⟨b, o + k * 2, none⟩ = some (.int .u8 D[k].1) ∧ W.cell? ⟨b, o + k * 2 + 1, none⟩ = some (.int .i64 D[k].2) := by
  obtain ⟨b, o, e, hb, hc⟩ := h.cells hk
  exact ⟨b, o, e, hb, hc 0 _ rfl, hc 1 _ rfl⟩
set_option maxRecDepth 100000 in
theorem stcomes_any (k : Int) (w : World) : Calls Tryz.prog 31 #[.int .u8 k] w fun e w' => e = .returned (.bool (comesKB k)) ∧ Below w.heap.size w w' := by
  by_cases h1 : 1 ≤ k
  · go_enter Tryz.func31, Tryz.ntmps31
    go_wp2_with fail
    go_ret
    exact ⟨by simp [comesKB, h1], Below.refl _ _⟩
  · go_enter Tryz.func31, Tryz.ntmps31
    go_wp2_with fail
    go_ret
    exact ⟨by simp [comesKB, h1]; intro h; omega, Below.refl _ _⟩
set_option maxRecDepth 100000 in
theorem stgoesk_any (k : Int) (w : World) : Calls Tryz.prog 33 #[.int .u8 k] w fun e w' => e = .returned (.bool (goesKB k)) ∧ Below w.heap.size w w' := by
  by_cases h1 : 6 ≤ k
  · go_enter Tryz.func33, Tryz.ntmps33
    go_wp2_with fail
    go_ret
    exact ⟨by simp [goesKB, h1], Below.refl _ _⟩
  · go_enter Tryz.func33, Tryz.ntmps33
    go_wp2_with fail
    go_ret
    exact ⟨by simp [goesKB, h1]; intro h; omega, Below.refl _ _⟩
set_option maxRecDepth 100000 in
set_option maxHeartbeats 4000000 in
theorem numbers12_any (A B : Option Addr) (c d : Nat) (D E : List Int) (w : World) (hD : D.length ≤ 1000000) (hE : E.length ≤ 1000000) (h : Rd encI 1 w.heap.size A c D w) (h' : Rd encI 1 w.heap.size B d E w) : Calls Tryz.prog 30 #[.slice A D.length c, .slice B E.length d] w fun e w' => e = .returned (.bool (decide (D = E))) ∧ Below w.heap.size w w' := by
  obtain ⟨r, hr⟩ : ∃ r, r = decide (D = E) := ⟨_, rfl⟩
  rw [← hr]
  have RR := Lib.hid hr
  clear hr
  by_cases hl : D.length = E.length
  · have H := Lib.hid h
    have H' := Lib.hid h'
    obtain ⟨n, hn⟩ : ∃ n, n = D.length := ⟨_, rfl⟩
    have HN := Lib.hid hn
    have HE := Lib.hid (hn.trans hl)
    rw [← hl, ← hn]
    have hN : n ≤ 1000000 := by omega
    clear hl h h' hD hE hn
    go_enter Tryz.func30, Tryz.ntmps30
    go_wp2_with fail
    go_loopw [5] (fun iv wr => ∃ k : Nat, k ≤ n ∧ iv = .int .i64 (k : Int) ∧ Hid (∀ j, j < k → D[j]? = E[j]?) ∧ Below w.heap.size w wr) (fun iv _ => n - (intOf iv).toNat)
    case atStart => exact ⟨0, by omega, rfl, Lib.hid (by intro j h; omega), Below.refl _ _⟩
    case round =>
      obtain ⟨k, hk, rfl, HS, hB⟩ := hrel
      rename World => wr
      have HB := Lib.hid hB
      by_cases hlt : k < n
      · have l1 : k < D.length := by have := HN.out; omega
        have l2 : k < E.length := by have := HE.out; omega
        obtain ⟨b, o, hA, hb, e0⟩ := ((H.out.below hB).more hB.size).int_at l1
        obtain ⟨b2, o2, hA2, hb2, f0⟩ := ((H'.out.below hB).more hB.size).int_at l2
        have E1 := Lib.hid (show D[k]? = some D[k] from List.getElem?_eq_getElem l1)
        have E2 := Lib.hid (show E[k]? = some E[k] from List.getElem?_eq_getElem l2)
        subst hA hA2
        generalize D[k] = x at *
        generalize E[k] = y at *
        clear l1 l2 hB
        have i0 : (0 : Int) ≤ (k : Int) := by omega
        have i1 : (k : Int) < (n : Int) := by omega
        by_cases hxy : x = y
        · subst hxy
          go_wp2_with fail
          go_quiet (fail)
          go_wp2_with fail
          go_roundw
          case rel =>
            refine ⟨k + 1, by omega, by go_num, Lib.hid ?_, Go.below_drewN HB.out _⟩
            intro j hj
            by_cases hjk : j = k
            · subst hjk; rw [E1.out, E2.out]
            · exact HS.out j (by omega)
          case measure => simp [intOf]; omega
        · have HF := Lib.hid (show decide (D = E) = false from decide_eq_false fun h => hxy (by have := E1.out; rw [h, E2.out] at this; exact (Option.some.inj this).symm))
          go_wp2_with fail
          go_quiet (fail)
          go_wp2_with fail
          go_ret
          obtain rfl := RR.out.trans HF.out
          exact ⟨rfl, Go.below_drewN HB.out _⟩
      · obtain rfl : k = n := by omega
        have HF := Lib.hid (show decide (D = E) = true from decide_eq_true (List.ext_getElem? fun j => by
          by_cases hj : j < k
          · exact HS.out j hj
          · rw [List.getElem?_eq_none (by have := HN.out; omega), List.getElem?_eq_none (by have := HE.out; omega)]))
        have i1 : ¬ (k : Int) < (k : Int) := by omega
        go_wp2_with fail
        go_ret
        obtain rfl := RR.out.trans HF.out
        exact ⟨rfl, HB.out⟩
  · have HF := Lib.hid (show decide (D = E) = false from decide_eq_false fun h => hl (by rw [h]))
    have hl2 : ¬ (D.length : Int) = (E.length : Int) := by omega
    clear h h' hl
    go_enter Tryz.func30, Tryz.ntmps30
    go_wp2_with fail
    go_ret
    obtain rfl := RR.out.trans HF.out
    exact ⟨rfl, Below.refl _ _⟩
set_option maxRecDepth 100000 in
set_option maxHeartbeats 4000000 in
theorem same30_any (A B : Option Addr) (c d : Nat) (D E : List (Int × Int)) (w : World) (hD : D.length ≤ 1000000) (hE : E.length ≤ 1000000) (h : Rd encSt 2 w.heap.size A c D w) (h' : Rd encSt 2 w.heap.size B d E w) : Calls Tryz.prog 29 #[.slice A D.length c, .slice B E.length d] w fun e w' => e = .returned (.bool (decide (D = E))) ∧ Below w.heap.size w w' := by
  obtain ⟨r, hr⟩ : ∃ r, r = decide (D = E) := ⟨_, rfl⟩
  rw [← hr]
  have RR := Lib.hid hr
  clear hr
  by_cases hl : D.length = E.length
  · have H := Lib.hid h
    have H' := Lib.hid h'
    obtain ⟨n, hn⟩ : ∃ n, n = D.length := ⟨_, rfl⟩
    have HN := Lib.hid hn
    have HE := Lib.hid (hn.trans hl)
    rw [← hl, ← hn]
    have hN : n ≤ 1000000 := by omega
    clear hl h h' hD hE hn
    go_enter Tryz.func29, Tryz.ntmps29
    go_wp2_with fail
    go_loopw [5] (fun iv wr => ∃ k : Nat, k ≤ n ∧ iv = .int .i64 (k : Int) ∧ Hid (∀ j, j < k → D[j]? = E[j]?) ∧ Below w.heap.size w wr) (fun iv _ => n - (intOf iv).toNat)
    case atStart => exact ⟨0, by omega, rfl, Lib.hid (by intro j h; omega), Below.refl _ _⟩
    case round =>
      obtain ⟨k, hk, rfl, HS, hB⟩ := hrel
      rename World => wr
      have HB := Lib.hid hB
      by_cases hlt : k < n
      · have l1 : k < D.length := by have := HN.out; omega
        have l2 : k < E.length := by have := HE.out; omega
        obtain ⟨b, o, hA, hb, e0, e1⟩ := ((H.out.below hB).more hB.size).st_at l1
        obtain ⟨b2, o2, hA2, hb2, f0, f1⟩ := ((H'.out.below hB).more hB.size).st_at l2
        have E1 := Lib.hid (show D[k]? = some D[k] from List.getElem?_eq_getElem l1)
        have E2 := Lib.hid (show E[k]? = some E[k] from List.getElem?_eq_getElem l2)
        subst hA hA2
        generalize D[k] = x at *
        generalize E[k] = y at *
        clear l1 l2 hB
        have i0 : (0 : Int) ≤ (k : Int) := by omega
        have i1 : (k : Int) < (n : Int) := by omega
        by_cases hxy : x = y
        · subst hxy
          go_wp2_with fail
          go_quiet (fail)
          go_wp2_with fail
          go_roundw
          case rel =>
            refine ⟨k + 1, by omega, by go_num, Lib.hid ?_, Go.below_drewN HB.out _⟩
            intro j hj
            by_cases hjk : j = k
            · subst hjk; rw [E1.out, E2.out]
            · exact HS.out j (by omega)
          case measure => simp [intOf]; omega
        · have HF := Lib.hid (show decide (D = E) = false from decide_eq_false fun h => hxy (by have := E1.out; rw [h, E2.out] at this; exact (Option.some.inj this).symm))
          obtain ⟨x1, x2⟩ := x
          obtain ⟨y1, y2⟩ := y
          dsimp only at e0 e1 f0 f1
          by_cases h1 : x1 = y1
          · have h2 : ¬ x2 = y2 := fun h => hxy (by rw [h1, h])
            subst h1
            clear hxy
            go_wp2_with fail
            go_quiet (fail)
            go_wp2_with fail
            go_ret
            obtain rfl := RR.out.trans HF.out
            exact ⟨rfl, Go.below_drewN HB.out _⟩
          · clear hxy
            go_wp2_with fail
            go_quiet (fail)
            go_wp2_with fail
            go_ret
            obtain rfl := RR.out.trans HF.out
            exact ⟨rfl, Go.below_drewN HB.out _⟩
      · obtain rfl : k = n := by omega
        have HF := Lib.hid (show decide (D = E) = true from decide_eq_true (List.ext_getElem? fun j => by
          by_cases hj : j < k
          · exact HS.out j hj
          · rw [List.getElem?_eq_none (by have := HN.out; omega), List.getElem?_eq_none (by have := HE.out; omega)]))
        have i1 : ¬ (k : Int) < (k : Int) := by omega
        go_wp2_with fail
        go_ret
        obtain rfl := RR.out.trans HF.out
        exact ⟨rfl, HB.out⟩
  · have HF := Lib.hid (show decide (D = E) = false from decide_eq_false fun h => hl (by rw [h]))
    have hl2 : ¬ (D.length : Int) = (E.length : Int) := by omega
    clear h h' hl
    go_enter Tryz.func29, Tryz.ntmps29
    go_wp2_with fail
    go_ret
    obtain rfl := RR.out.trans HF.out
    exact ⟨rfl, Below.refl _ _⟩
end Go.Proofs.YteobmfpbgnmffaaGreatDoor
