/- Walks: the plain functions of lex and of its statements. -/
import Derived.Test.YtlfnihnegheaaaaDoorRlPlain
namespace Go.Proofs.YtlfnihnegheaaaaDoor
open Go.RowKit

set_option maxHeartbeats 400000 in
theorem bracket_any (n : Int) (w : World) :
    Calls Tryd.prog 37 #[.int .u8 n] w fun e w' => e = .returned (.bool (brB n)) ∧ w = w' := by
  go_enter Tryd.func37, Tryd.ntmps37
  go_wp2
  all_goals (go_ret; exact ⟨by simp [brB, *], rfl⟩)
theorem innB_hi {n : Int} (h : 126 < n) : innB n = false := by simp [innB, decide_eq_false (Int.not_le.2 h)]
theorem innB_lo {n : Int} (h : n ≤ 32) : innB n = false := by simp [innB, decide_eq_false (Int.not_lt.2 h)]
set_option maxHeartbeats 400000 in
theorem inner_any (n : Int) (w : World) :
    Calls Tryd.prog 38 #[.int .u8 n] w fun e w' => e = .returned (.bool (innB n)) ∧ w = w' := by
  by_cases h1 : 32 < n
  · by_cases h2 : n ≤ 126
    · go_enter Tryd.func38, Tryd.ntmps38
      go_wp2_with (go_at_call 37; refine (bracket_any _ _).mono ?_; rintro e w' ⟨rfl, rfl⟩)
      go_ret
      exact ⟨by simp [innB, h1, h2], rfl⟩
    · go_enter Tryd.func38, Tryd.ntmps38
      go_wp2
      go_ret
      exact ⟨by rw [innB_hi h2]; rfl, rfl⟩
  · go_enter Tryd.func38, Tryd.ntmps38
    go_wp2
    go_ret
    exact ⟨by rw [innB_lo h1]; rfl, rfl⟩
end Go.Proofs.YtlfnihnegheaaaaDoor
