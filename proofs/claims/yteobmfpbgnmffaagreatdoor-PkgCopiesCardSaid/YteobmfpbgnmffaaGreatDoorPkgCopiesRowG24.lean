/- PkMuch2 -/
import Derived.Test.YteobmfpbgnmffaaGreatDoorPkgCopiesRowG19
import Derived.Test.YteobmfpbgnmffaaGreatDoorPkgCopiesRowG14
set_option linter.unusedSimpArgs false
set_option linter.unusedVariables false
/- Walks: of how many parts rich dependencies are, told exactly (chandlerylaw10.much). -/


namespace Go.Proofs.YteobmfpbgnmffaaGreatDoor
open Go.RowKit Go.Shelf
set_option linter.unusedVariables false

theorem partsL_take3 {l : List RT} {k : Nat} (hk : k < l.length) : partsL (l.take (k + 1)) = partsL (l.take k) + l[k].parts := by rw [List.take_succ_eq_append_getElem hk, partsL_app]; simp [partsL]
/-- what much hands back -/
def MuchPost2 (l : List RV) (w : World) (e : Ending) (w' : World) : Prop := ∃ (m : Nat) (r : Bool), e = .returned (.tuple #[.int .i64 (m : Int), .bool r]) ∧ m ≤ 2000 ∧ (r = false → m = partsL (treeL l)) ∧ Below w.heap.size w w'
set_option maxRecDepth 100000 in
set_option maxHeartbeats 16000000 in
theorem much2_any : ∀ (f : Nat) (deep : Nat) (A : Option Addr) (cap : Nat) (l : List RV) (w : World), deep + f = 21 → RRow w.heap.size w A cap l → Calls Tryz.prog 62 #[.slice A l.length cap, .int .i64 (deep : Int)] w (MuchPost2 l w)
  | 0, deep, A, cap, l, w, hd, h => by
    obtain rfl : deep = 21 := by omega
    have hm := h.1.len
    clear h
    generalize l.length = n at *
    go_enter Tryz.func62, Tryz.ntmps62
    go_wp2_with fail
    go_ret2
    exact ⟨0, true, rfl, by omega, (fun h => by cases h), Below.refl _ _⟩
  | f + 1, deep, A, cap, l, w, hd, h => by
    have IH := Lib.hid (fun A cap l w h => much2_any f (deep + 1) A cap l w (by omega) h)
    have hm := h.1.len
    have H := Lib.hid h
    have d0 : ¬ (20 : Int) < (deep : Int) := by omega
    have d1 : (deep : Int) ≤ 20 := by omega
    clear h
    by_cases hn : 100 < l.length
    · have hn2 : (100 : Int) < (l.length : Int) := by omega
      clear IH H hn
      generalize l.length = n at *
      go_enter Tryz.func62, Tryz.ntmps62
      go_wp2_with fail
      go_ret2
      exact ⟨0, true, rfl, by omega, (fun h => by cases h), Below.refl _ _⟩
    · have hn2 : ¬ (100 : Int) < (l.length : Int) := by omega
      obtain ⟨n, hnn⟩ : ∃ n, n = l.length := ⟨_, rfl⟩
      rw [← hnn] at hn hn2 hm ⊢
      have HN := Lib.hid hnn
      clear hnn
      have hd1 : (((deep + 1 : Nat)) : Int) = (deep : Int) + 1 := by omega
      rw [hd1] at IH
      clear hd1
      go_enter Tryz.func62, Tryz.ntmps62
      go_wp2_with fail
      go_loopw [6, 7] (fun m i wr => ∃ k c : Nat, k ≤ n ∧ c ≤ 2000 ∧ i = .int .i64 (k : Int) ∧ m = .int .i64 (c : Int) ∧ Hid (c = partsL ((treeL l).take k)) ∧ Below w.heap.size w wr) (fun _ i _ => n - (intOf i).toNat)
      case atStart => exact ⟨0, 0, by omega, by omega, rfl, rfl, Lib.hid (by simp [partsL]), Below.refl _ _⟩
      case round =>
        obtain ⟨k, c, hk, hc, rfl, rfl, HCP, hB⟩ := hrel
        rename World => wr
        by_cases hlt : k < n
        · have hkl : k < l.length := by have := HN.out; omega
          have HS := Lib.hid ((H.out.below hB).sub hkl)
          obtain ⟨b, o, rfl, hb, c0, c1, c2, c3, c4, c5, c6⟩ := (H.out.below hB).at_ hkl
          have hw := (H.out.2 _ (List.getElem_mem hkl)).wf
          have HST := Lib.hid (show ∀ m : Nat, m = partsL (treeL l[k].args) → c + 1 + m = partsL ((treeL l).take (k + 1)) from fun m hm => by
            have hkt : k < (treeL l).length := by rw [treeL_len]; exact hkl
            have g1 := partsL_take3 hkt
            rw [treeL_get l k hkl, tree_parts l[k], RT.parts, ← hm, ← HCP.out] at g1
            omega)
          generalize l[k] = t at *
          have i0 : (0 : Int) ≤ (k : Int) := by omega
          have i1 : (k : Int) < (n : Int) := by omega
          have hsz := hB.size
          have HB := Lib.hid hB
          clear hkl hw hB c0 c2 c3
          generalize bs t.dep.name = s0 at *
          generalize bs t.dep.evr.ver = s1 at *
          generalize bs t.dep.evr.rel = s2 at *
          generalize t.addr = tA at *
          generalize t.cap = tc at *
          generalize t.args = tl at *
          obtain ⟨z, hz⟩ : ∃ z, IntKind.i64.wrap ((s0.size : Int) + (s1.size : Int)) = z := ⟨_, rfl⟩
          by_cases q1 : (500 : Int) < z
          · go_wp2_with fail
            go_quiet (fail)
            go_wp2_with fail
            go_ret2
            exact ⟨0, true, rfl, by omega, (fun h => by cases h), below_drewNm HB.out⟩
          · by_cases q2 : (500 : Int) < (s2.size : Int)
            · go_wp2_with fail
              go_quiet (fail)
              go_wp2_with fail
              go_ret2
              exact ⟨0, true, rfl, by omega, (fun h => by cases h), below_drewNm HB.out⟩
            · go_wp2_with fail
              go_quiet (fail)
              go_wp2_with fail
              go_at_call 62
              refine (IH.out tA tc tl _ ((HS.out.below (below_drewNm (Below.refl _ _))).more hsz)).mono ?_
              rintro e w2 ⟨m, r, rfl, hm2, hmp, h⟩
              have HMP := Lib.hid hmp
              clear hmp
              have hB2 := (below_drewNm HB.out).trans (h.mono hsz)
              clear h
              cases r
              · by_cases q3 : (2000 : Int) < (c : Int) + 1 + (m : Int)
                · go_wp2_with fail
                  go_ret2
                  exact ⟨0, true, rfl, by omega, (fun h => by cases h), hB2⟩
                · go_wp2_with fail
                  go_roundw
                  case rel => exact ⟨k + 1, c + 1 + m, by omega, by omega, by go_num, by go_num, Lib.hid (HST.out m (HMP.out (by trivial))), hB2⟩
                  case measure => simp [intOf]; omega
              · go_wp2_with fail
                go_ret2
                exact ⟨0, true, rfl, by omega, (fun h => by cases h), hB2⟩
        · have i1 : ¬ (k : Int) < (n : Int) := by omega
          go_wp2_with fail
          go_ret2
          exact ⟨c, false, rfl, hc, (fun _ => by rw [HCP.out, List.take_of_length_le (by rw [treeL_len]; have := HN.out; omega)]), hB⟩

end Go.Proofs.YteobmfpbgnmffaaGreatDoor
