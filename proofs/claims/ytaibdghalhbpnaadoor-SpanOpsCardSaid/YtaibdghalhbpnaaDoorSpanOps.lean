/- SpanOps, walked. -/
import Derived.Test.YtaibdghalhbpnaaDoorSpAwake
import Derived.Test.YtaibdghalhbpnaaDoorRowLaid
namespace Go.Proofs.YtaibdghalhbpnaaDoor
open Go.RowKit Go.Shelf

set_option maxRecDepth 100000 in
set_option maxHeartbeats 8000000 in
theorem spanOps_row (w : World) (hO : OpsIn w) (n : Int) (wn : (Lit.int .u8 n).wf = true) (s : ByteArray) (hs : s.size ≤ maxLen) : Calls Tryd.prog 8 #[.int .u8 n, .string s] w fun e w' => e = .returned (.bool true) ∧ Below w.heap.size w w' := by
  have AW := Lib.hid (fun W (h : Below w.heap.size w W) => awake04 W (hO.below h))
  have P1 := Lib.hid (fun W (h : Below w.heap.size w W) => opParse_any s hs W (hO.below h))
  have P2 := Lib.hid (fun W => ropParse_any s W)
  have M1 := Lib.hid (fun W (h : Below w.heap.size w W) => may_any n W (hO.below h))
  have M2 := Lib.hid (fun W => (show Calls Tryd.prog 33 #[.int .u8 n] W (fun e w' => e = .returned (.bool (opMay n)) ∧ W = w') from rmay_any n W))
  have T1 := Lib.hid (fun W (h : Below w.heap.size w W) => text_any n W (hO.below h))
  have T2 := Lib.hid (fun W => rtext_any n W)
  have B0 : Below w.heap.size w w := Below.refl _ _
  have hm : s.size ≤ 9223372036854775807 := by unfold maxLen at hs; exact hs
  clear wn hO hs
  generalize opMay n = r1 at *
  generalize opText n = t1 at *
  generalize (opOf s.toList).1 = o1 at *
  generalize (opOf s.toList).2 = o2 at *
  by_cases hl : 100 < s.size
  · go_enter Tryd.func8, Tryd.ntmps8
    go_wp2_with fail
    go_at_call 24
    refine (AW.out _ B0).mono ?_
    rintro e w1 ⟨rfl, h⟩
    go_wp2
    go_ret
    exact ⟨rfl, h⟩
  · have hl2 : (s.size : Int) ≤ 100 := by omega
    go_enter Tryd.func8, Tryd.ntmps8
    go_wp2_with fail
    go_at_call 30
    refine (P1.out _ B0).mono ?_
    rintro e w1 ⟨rfl, rfl⟩
    go_wp2_with fail
    go_at_call 31
    refine (P2.out _).mono ?_
    rintro e w1 ⟨rfl, rfl⟩
    go_wp2_with fail
    go_at_call 32
    refine (M1.out _ B0).mono ?_
    rintro e w1 ⟨rfl, h1⟩
    go_wp2_with fail
    go_at_call 33
    refine (M2.out _).mono ?_
    rintro e w2 ⟨rfl, rfl⟩
    go_wp2_with fail
    go_at_call 34
    refine (T1.out _ h1).mono ?_
    rintro e w3 ⟨rfl, h⟩
    have h3 := h1.trans (h.mono h1.size)
    clear h
    go_wp2_with fail
    go_at_call 35
    refine (T2.out _).mono ?_
    rintro e w4 ⟨rfl, rfl⟩
    go_wp2_with fail
    go_at_call 24
    refine (AW.out _ h3).mono ?_
    rintro e w5 ⟨rfl, h⟩
    go_wp2
    go_ret
    exact ⟨rfl, h3.trans (h.mono h3.size)⟩
end Go.Proofs.YtaibdghalhbpnaaDoor
