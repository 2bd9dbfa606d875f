/- Walks: the plain functions of lex and of its statements. -/
import Derived.Test.YtpnnhhgojijlbaaDoorRlPlain
namespace Go.Proofs.YtpnnhhgojijlbaaDoor
open Go.RowKit

set_option maxHeartbeats 400000 in
theorem bracket_any (n : Int) (w : World) :
    Calls Tryd.prog 82 #[.int .u8 n] w fun e w' => e = .returned (.bool (brB n)) ∧ w = w' := by
  go_enter Tryd.func82, Tryd.ntmps82
  go_wp2
  all_goals (go_ret; exact ⟨by simp [brB, *], rfl⟩)
theorem innB_hi {n : Int} (h : 126 < n) : innB n = false := by simp [innB, decide_eq_false (Int.not_le.2 h)]
theorem innB_lo {n : Int} (h : n ≤ 32) : innB n = false := by simp [innB, decide_eq_false (Int.not_lt.2 h)]
set_option maxHeartbeats 400000 in
theorem inner_any (n : Int) (w : World) :
    Calls Tryd.prog 83 #[.int .u8 n] w fun e w' => e = .returned (.bool (innB n)) ∧ w = w' := by
  by_cases h1 : 32 < n
  · by_cases h2 : n ≤ 126
    · go_enter Tryd.func83, Tryd.ntmps83
      go_wp2_with (go_at_call 82; refine (bracket_any _ _).mono ?_; rintro e w' ⟨rfl, rfl⟩)
      go_ret
      exact ⟨by simp [innB, h1, h2], rfl⟩
    · go_enter Tryd.func83, Tryd.ntmps83
      go_wp2
      go_ret
      exact ⟨by rw [innB_hi h2]; rfl, rfl⟩
  · go_enter Tryd.func83, Tryd.ntmps83
    go_wp2
    go_ret
    exact ⟨by rw [innB_lo h1]; rfl, rfl⟩
end Go.Proofs.YtpnnhhgojijlbaaDoor
