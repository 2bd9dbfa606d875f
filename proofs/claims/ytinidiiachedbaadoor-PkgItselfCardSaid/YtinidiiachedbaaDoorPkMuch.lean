/- Walks: of how many parts rich dependencies are (chandlerylaw10.much). -/
import Derived.Test.YtinidiiachedbaaDoorPkA
import Derived.Test.YtinidiiachedbaaDoorEvLaw
import Derived.Deep.RegionHeld3
namespace Go.Proofs.YtinidiiachedbaaDoor
open Go.RowKit Go.Shelf
set_option linter.unusedVariables false

theorem below_drewNm {B : Nat} {w W : World} {n : Nat} (h : Below B w W) : Below B w (W.drewN n) := ⟨h.os, h.tape, h.output, h.size, h.block⟩
/-- what much hands back -/
def MuchPost (w : World) (e : Ending) (w' : World) : Prop := ∃ (m : Nat) (r : Bool), e = .returned (.tuple #[.int .i64 (m : Int), .bool r]) ∧ m ≤ 2000 ∧ Below w.heap.size w w'
set_option maxRecDepth 100000 in
set_option maxHeartbeats 16000000 in
theorem much_any : ∀ (f : Nat) (deep : Nat) (A : Option Addr) (cap : Nat) (l : List RV) (w : World), deep + f = 21 → RRow w.heap.size w A cap l → Calls Tryd.prog 55 #[.slice A l.length cap, .int .i64 (deep : Int)] w (MuchPost w)
  | 0, deep, A, cap, l, w, hd, h => by
    obtain rfl : deep = 21 := by omega
    have hm := h.1.len
    clear h
    generalize l.length = n at *
    go_enter Tryd.func55, Tryd.ntmps55
    go_wp2_with fail
    go_ret2
    exact ⟨0, true, rfl, by omega, Below.refl _ _⟩
  | f + 1, deep, A, cap, l, w, hd, h => by
    have IH := Lib.hid (fun A cap l w h => much_any f (deep + 1) A cap l w (by omega) h)
    have hm := h.1.len
    have H := Lib.hid h
    have d0 : ¬ (20 : Int) < (deep : Int) := by omega
    have d1 : (deep : Int) ≤ 20 := by omega
    clear h
    by_cases hn : 100 < l.length
    · have hn2 : (100 : Int) < (l.length : Int) := by omega
      clear IH H hn
      generalize l.length = n at *
      go_enter Tryd.func55, Tryd.ntmps55
      go_wp2_with fail
      go_ret2
      exact ⟨0, true, rfl, by omega, Below.refl _ _⟩
    · have hn2 : ¬ (100 : Int) < (l.length : Int) := by omega
      obtain ⟨n, hnn⟩ : ∃ n, n = l.length := ⟨_, rfl⟩
      rw [← hnn] at hn hn2 hm ⊢
      have HN := Lib.hid hnn
      clear hnn
      have hd1 : (((deep + 1 : Nat)) : Int) = (deep : Int) + 1 := by omega
      rw [hd1] at IH
      clear hd1
      go_enter Tryd.func55, Tryd.ntmps55
      go_wp2_with fail
      go_loopw [6, 7] (fun m i wr => ∃ k c : Nat, k ≤ n ∧ c ≤ 2000 ∧ i = .int .i64 (k : Int) ∧ m = .int .i64 (c : Int) ∧ Below w.heap.size w wr) (fun _ i _ => n - (intOf i).toNat)
      case atStart => exact ⟨0, 0, by omega, by omega, rfl, rfl, Below.refl _ _⟩
      case round =>
        obtain ⟨k, c, hk, hc, rfl, rfl, hB⟩ := hrel
        rename World => wr
        by_cases hlt : k < n
        · have hkl : k < l.length := by have := HN.out; omega
          have HS := Lib.hid ((H.out.below hB).sub hkl)
          obtain ⟨b, o, rfl, hb, c0, c1, c2, c3, c4, c5, c6⟩ := (H.out.below hB).at_ hkl
          have hw := (H.out.2 _ (List.getElem_mem hkl)).wf
          generalize l[k] = t at *
          have i0 : (0 : Int) ≤ (k : Int) := by omega
          have i1 : (k : Int) < (n : Int) := by omega
          have hsz := hB.size
          have HB := Lib.hid hB
          clear hkl hw hB c0 c2 c3
          generalize bs t.dep.name = s0 at *
          generalize bs t.dep.evr.ver = s1 at *
          generalize bs t.dep.evr.rel = s2 at *
          generalize t.addr = tA at *
          generalize t.cap = tc at *
          generalize t.args = tl at *
          obtain ⟨z, hz⟩ : ∃ z, IntKind.i64.wrap ((s0.size : Int) + (s1.size : Int)) = z := ⟨_, rfl⟩
          by_cases q1 : (500 : Int) < z
          · go_wp2_with fail
            go_quiet (fail)
            go_wp2_with fail
            go_ret2
            exact ⟨0, true, rfl, by omega, below_drewNm HB.out⟩
          · by_cases q2 : (500 : Int) < (s2.size : Int)
            · go_wp2_with fail
              go_quiet (fail)
              go_wp2_with fail
              go_ret2
              exact ⟨0, true, rfl, by omega, below_drewNm HB.out⟩
            · go_wp2_with fail
              go_quiet (fail)
              go_wp2_with fail
              go_at_call 55
              refine (IH.out tA tc tl _ ((HS.out.below (below_drewNm (Below.refl _ _))).more hsz)).mono ?_
              rintro e w2 ⟨m, r, rfl, hm2, h⟩
              have hB2 := (below_drewNm HB.out).trans (h.mono hsz)
              clear h
              cases r
              · by_cases q3 : (2000 : Int) < (c : Int) + 1 + (m : Int)
                · go_wp2_with fail
                  go_ret2
                  exact ⟨0, true, rfl, by omega, hB2⟩
                · go_wp2_with fail
                  go_roundw
                  case rel => exact ⟨k + 1, c + 1 + m, by omega, by omega, by go_num, by go_num, hB2⟩
                  case measure => simp [intOf]; omega
              · go_wp2_with fail
                go_ret2
                exact ⟨0, true, rfl, by omega, hB2⟩
        · have i1 : ¬ (k : Int) < (n : Int) := by omega
          go_wp2_with fail
          go_ret2
          exact ⟨c, false, rfl, hc, hB⟩
end Go.Proofs.YtinidiiachedbaaDoor
