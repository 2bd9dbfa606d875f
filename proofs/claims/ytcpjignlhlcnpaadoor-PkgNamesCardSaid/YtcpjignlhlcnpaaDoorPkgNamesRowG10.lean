/- EvShow, EvParse -/
import Derived.Test.YtcpjignlhlcnpaaDoorPkgNamesRowG09
import Derived.Test.YtcpjignlhlcnpaaDoorPkgNamesRowG08
set_option linter.unusedSimpArgs false
set_option linter.unusedVariables false
namespace Go.Proofs.YtcpjignlhlcnpaaDoor
section
/- Walks: EVRs by the program: which may be, their texts, the EVR of a text. -/



open Go.RowKit Go.Shelf

set_option maxRecDepth 100000 in
set_option maxHeartbeats 8000000 in
theorem evMay_any (e : Evr) (dep : Bool) (w : World) (hw : e.wf) : Calls Tryd.prog 12 #[e.val, .bool dep] w fun r w' => r = .returned (.bool (mayB e dep)) ∧ Below w.heap.size w w' := by
  have WV := Lib.hid (fun W => word_any (bs e.ver) W (by rw [bs_size]; exact hw.2.1))
  have WR := Lib.hid (fun W => word_any (bs e.rel) W (by rw [bs_size]; exact hw.2.2))
  obtain ⟨r, hr⟩ : ∃ r, r = mayB e dep := ⟨_, rfl⟩
  rw [← hr]
  unfold mayB at hr
  rw [bs_toList] at WV WR
  have hx : (bs e.rel).toList = e.rel := bs_toList _
  clear hw
  unfold Evr.val
  obtain ⟨p, v, l⟩ := e
  dsimp only at *
  by_cases h0 : 0 ≤ p
  · by_cases h1 : p ≤ 2147483647
    · rw [decide_eq_true h0, decide_eq_true h1] at hr
      generalize wordB v = x at *
      generalize wordB l = y at *
      cases x with
      | false =>
        obtain rfl : r = false := hr
        clear hx
        go_enter Tryd.func12, Tryd.ntmps12
        go_wp2_with (go_at_call 29; refine (WV.out _).mono ?_; rintro e' w' ⟨rfl, rfl⟩)
        go_ret
        exact ⟨rfl, (Below.refl _ _).alloc (Nat.le_refl _) _⟩
      | true =>
        cases y with
        | true =>
          obtain rfl : r = true := hr
          clear hx
          go_enter Tryd.func12, Tryd.ntmps12
          go_wp2_with ((first | (go_at_call 29; ((with_reducible refine (WV.out _).mono ?_); rintro e' w' ⟨rfl, rfl⟩)) | (go_at_call 29; refine (WR.out _).mono ?_; rintro e' w' ⟨rfl, rfl⟩)))
          go_ret
          exact ⟨rfl, (Below.refl _ _).alloc (Nat.le_refl _) _⟩
        | false =>
          cases dep with
          | false =>
            obtain rfl : r = false := hr
            clear hx
            go_enter Tryd.func12, Tryd.ntmps12
            go_wp2_with ((first | (go_at_call 29; ((with_reducible refine (WV.out _).mono ?_); rintro e' w' ⟨rfl, rfl⟩)) | (go_at_call 29; refine (WR.out _).mono ?_; rintro e' w' ⟨rfl, rfl⟩)))
            go_ret
            exact ⟨rfl, (Below.refl _ _).alloc (Nat.le_refl _) _⟩
          | true =>
            by_cases hl : l = []
            · have f1 : (bs l).toList = [] := by rw [hx, hl]
              obtain rfl : r = true := by rw [hr, hl]; rfl
              clear hx hl hr
              go_enter Tryd.func12, Tryd.ntmps12
              go_wp2_with ((first | (go_at_call 29; ((with_reducible refine (WV.out _).mono ?_); rintro e' w' ⟨rfl, rfl⟩)) | (go_at_call 29; refine (WR.out _).mono ?_; rintro e' w' ⟨rfl, rfl⟩)))
              go_ret
              exact ⟨rfl, (Below.refl _ _).alloc (Nat.le_refl _) _⟩
            · have f1 : ¬ (bs l).toList = [] := by rw [hx]; exact hl
              have f2 : (bs l).toList.isEmpty = false := by rw [hx]; simpa using hl
              obtain rfl : r = false := by rw [hr]; simp [hl]
              clear hx hl hr
              go_enter Tryd.func12, Tryd.ntmps12
              go_wp2_with ((first | (go_at_call 29; ((with_reducible refine (WV.out _).mono ?_); rintro e' w' ⟨rfl, rfl⟩)) | (go_at_call 29; refine (WR.out _).mono ?_; rintro e' w' ⟨rfl, rfl⟩)))
              go_ret
              exact ⟨rfl, (Below.refl _ _).alloc (Nat.le_refl _) _⟩
    · obtain rfl : r = false := by rw [hr, decide_eq_false h1]; simp
      have h2 : 2147483647 < p := by omega
      clear hx hr
      go_enter Tryd.func12, Tryd.ntmps12
      go_wp2_with fail
      go_ret
      exact ⟨rfl, (Below.refl _ _).alloc (Nat.le_refl _) _⟩
  · obtain rfl : r = false := by rw [hr, decide_eq_false h0]; rfl
    have h2 : p < 0 := by omega
    clear hx hr
    go_enter Tryd.func12, Tryd.ntmps12
    go_wp2_with fail
    go_ret
    exact ⟨rfl, (Below.refl _ _).alloc (Nat.le_refl _) _⟩
end
section
/- Walks: the EVR of a text, by the program. -/


open Go.RowKit Go.Shelf

def zeroE : Evr := ⟨0, [], []⟩
end
end Go.Proofs.YtcpjignlhlcnpaaDoor
