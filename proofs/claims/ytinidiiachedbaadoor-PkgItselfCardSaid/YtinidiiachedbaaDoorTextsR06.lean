/- Walks: whether two slices of texts are the same, wherever they lie (chandleryref06.Texts). -/
import Derived.Test.YtinidiiachedbaaDoorTRow
namespace Go.Proofs.YtinidiiachedbaaDoor
open Go.RowKit
set_option linter.unusedVariables false

set_option maxRecDepth 100000 in
set_option maxHeartbeats 4000000 in
theorem textsR06_any (A B : Option Addr) (c d : Nat) (D E : List ByteArray) (w : World) (hD : D.length ≤ 1000000000) (hE : E.length ≤ 1000000000) (hu : TR w A D) (hv : TR w B E) :
    Calls Tryd.prog 54 #[.slice A D.length c, .slice B E.length d] w fun e w' => e = .returned (.bool (decide (D = E))) ∧ Below w.heap.size w w' := by
  by_cases hl : D.length = E.length
  · obtain ⟨n, hn⟩ : ∃ n, n = D.length := ⟨_, rfl⟩
    have HN := Lib.hid hn
    have HE := Lib.hid (hn.trans hl)
    rw [← hl, ← hn]
    have hN : n ≤ 1000000000 := by omega
    have HC := Lib.hid hu
    have HD := Lib.hid hv
    clear hl hu hv hD hE hn
    go_enter Tryd.func54, Tryd.ntmps54
    go_wp2
    go_loopw [5] (fun i wr => ∃ k : Nat, k ≤ n ∧ i = .int .i64 (k : Int) ∧ RowKit.Hid (∀ j, j < k → D[j]? = E[j]?) ∧ Below w.heap.size w wr) (fun i _ => n - (intOf i).toNat)
    case atStart => exact ⟨0, by omega, rfl, Lib.hid (by intro j hj; omega), Below.refl _ _⟩
    case round =>
      obtain ⟨k, hk, rfl, hS, hB⟩ := hrel
      rename World => wr
      have HB := Lib.hid hB
      by_cases hlt : k < n
      · have l1 : k < D.length := by have := HN.out; omega
        have l2 : k < E.length := by have := HE.out; omega
        obtain ⟨g, o, rfl, hg, p1⟩ := (HC.out.below hB) k l1
        obtain ⟨f, q, rfl, hf, p2⟩ := (HD.out.below hB) k l2
        have e1 : D[k]? = some D[k] := List.getElem?_eq_getElem l1
        have e2 : E[k]? = some E[k] := List.getElem?_eq_getElem l2
        generalize D[k] = x at *
        generalize E[k] = y at *
        have E1 := Lib.hid e1
        have E2 := Lib.hid e2
        clear e1 e2 l1 l2 hB
        have hlt2 : (k : Int) < (n : Int) := by omega
        by_cases hxy : x = y
        · subst hxy
          go_wp2
          go_region
          go_wp2
          go_roundw
          case rel =>
            refine ⟨k + 1, by omega, by go_num, Lib.hid ?_, HB.out.drew⟩
            intro j hj
            by_cases hjk : j = k
            · subst hjk; rw [E1.out, E2.out]
            · exact hS.out j (by omega)
          case measure => simp [intOf]; omega
        · have hx2 : (x.toList == y.toList) = false := beq_eq_false_iff_ne.2 fun h => hxy (toList_inj h)
          have hx3 : ¬ x.toList = y.toList := fun h => hxy (toList_inj h)
          go_wp2
          go_region
          go_wp2
          go_ret
          refine ⟨ret_bool ?_, HB.out.drew⟩
          symm
          refine decide_eq_false ?_
          intro e
          have h := E1.out
          rw [e, E2.out] at h
          exact hxy (Option.some.inj h).symm
      · have hlt2 : ¬ (k : Int) < (n : Int) := by omega
        go_wp2
        go_ret
        refine ⟨ret_bool ?_, HB.out⟩
        symm
        refine decide_eq_true ?_
        refine List.ext_getElem? ?_
        intro i
        by_cases hi : i < k
        · exact hS.out i hi
        · rw [List.getElem?_eq_none (by have := HN.out; omega), List.getElem?_eq_none (by have := HE.out; omega)]
  · have hne : ((D.length : Int) == (E.length : Int)) = false := by simp only [beq_eq_false_iff_ne]; omega
    have hne2 : ¬ (D.length : Int) = (E.length : Int) := by omega
    have hx : RowKit.Hid (decide (D = E) = false) := Lib.hid (decide_eq_false fun e => hl (by rw [e]))
    rw [hx.out]
    clear hl hu hv hx
    generalize D.length = n at *
    generalize E.length = m at *
    go_enter Tryd.func54, Tryd.ntmps54
    go_wp2
    go_ret
    exact ⟨rfl, Below.refl _ _⟩
end Go.Proofs.YtinidiiachedbaaDoor
