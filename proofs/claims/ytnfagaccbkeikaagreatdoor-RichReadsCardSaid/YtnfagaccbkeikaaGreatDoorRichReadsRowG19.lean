/- DepRefN -/
import Derived.Test.YtnfagaccbkeikaaGreatDoorRichReadsRowG10
/- Walks: names of dependencies, by the document. -/

namespace Go.Proofs.YtnfagaccbkeikaaGreatDoor
open Go.RowKit Go.Shelf

set_option maxRecDepth 100000 in
set_option maxHeartbeats 8000000 in
theorem rsign_yes (n : Int) (w : World) (h : sgnI n = true) : Calls Tryz.prog 158 #[.int .u8 n] w fun e w' => e = .returned (.bool true) ∧ w = w' := by
  unfold sgnI at h
  have h := of_decide_eq_true h
  by_cases a : 97 ≤ n ∧ n ≤ 122
  · obtain ⟨a1, a2⟩ := a
    clear h
    go_enter Tryz.func158, Tryz.ntmps158
    go_wp2
    go_ret
    exact ⟨rfl, rfl⟩
  by_cases b : 65 ≤ n ∧ n ≤ 90
  · obtain ⟨a1, a2⟩ := b
    have a3 : ¬ 97 ≤ n := by omega
    clear h a
    go_enter Tryz.func158, Tryz.ntmps158
    go_wp2
    go_ret
    exact ⟨rfl, rfl⟩
  by_cases c : 48 ≤ n ∧ n ≤ 57
  · obtain ⟨a1, a2⟩ := c
    have a3 : ¬ 97 ≤ n := by omega
    have a4 : ¬ 65 ≤ n := by omega
    clear h a b
    go_enter Tryz.func158, Tryz.ntmps158
    go_wp2
    go_ret
    exact ⟨rfl, rfl⟩
  have h : n = 46 ∨ n = 95 ∨ n = 43 ∨ n = 45 ∨ n = 47 ∨ n = 58 ∨ n = 64 ∨ n = 126 ∨ n = 94 := by omega
  clear a b c
  rcases h with rfl | rfl | rfl | rfl | rfl | rfl | rfl | rfl | rfl
  all_goals
    go_enter Tryz.func158, Tryz.ntmps158
    go_wp2
    go_ret
    exact ⟨rfl, rfl⟩
set_option maxRecDepth 100000 in
set_option maxHeartbeats 8000000 in
theorem rsign_no (n : Int) (w : World) (h : sgnI n = false) : Calls Tryz.prog 158 #[.int .u8 n] w fun e w' => e = .returned (.bool false) ∧ w = w' := by
  unfold sgnI at h
  have h := of_decide_eq_false h
  have e1 : (n == 46) = false := by simp; omega
  have e2 : (n == 95) = false := by simp; omega
  have e3 : (n == 43) = false := by simp; omega
  have e4 : (n == 45) = false := by simp; omega
  have e5 : (n == 47) = false := by simp; omega
  have e6 : (n == 58) = false := by simp; omega
  have e7 : (n == 64) = false := by simp; omega
  have e8 : (n == 126) = false := by simp; omega
  have e9 : (n == 94) = false := by simp; omega
  by_cases a : 97 ≤ n
  · have a2 : ¬ n ≤ 122 := by omega
    have b1 : 65 ≤ n := by omega
    have b2 : ¬ n ≤ 90 := by omega
    have c1 : 48 ≤ n := by omega
    have c2 : ¬ n ≤ 57 := by omega
    clear h
    go_enter Tryz.func158, Tryz.ntmps158
    go_wp2
    go_ret
    exact ⟨rfl, rfl⟩
  by_cases b : 65 ≤ n
  · have b2 : ¬ n ≤ 90 := by omega
    have c1 : 48 ≤ n := by omega
    have c2 : ¬ n ≤ 57 := by omega
    clear h
    go_enter Tryz.func158, Tryz.ntmps158
    go_wp2
    go_ret
    exact ⟨rfl, rfl⟩
  by_cases c : 48 ≤ n
  · have c2 : ¬ n ≤ 57 := by omega
    clear h
    go_enter Tryz.func158, Tryz.ntmps158
    go_wp2
    go_ret
    exact ⟨rfl, rfl⟩
  clear h
  go_enter Tryz.func158, Tryz.ntmps158
  go_wp2
  go_ret
  exact ⟨rfl, rfl⟩
set_option maxRecDepth 100000 in
set_option maxHeartbeats 8000000 in
theorem rdname_any (s : ByteArray) (w : World) (hs : s.size ≤ maxLen) : Calls Tryz.prog 112 #[.string s] w fun e w' => e = .returned (.bool (nameB s.toList)) ∧ Below w.heap.size w w' := by
  unfold maxLen at hs
  by_cases h0 : s.size = 0
  · have HW := Lib.hid (name_none h0)
    have e0 : s.toList = [] := List.eq_nil_of_length_eq_zero (by rw [size_toList]; exact h0)
    rw [HW.out]
    clear HW
    obtain rfl : s = ⟨#[]⟩ := toList_inj (e0.trans (bs_toList []).symm)
    clear e0 h0
    go_enter Tryz.func112, Tryz.ntmps112
    go_wp2
    go_ret
    exact ⟨rfl, Below.refl _ _⟩
  have h1 : ¬ (s.size : Int) < 1 := by omega
  by_cases h64 : 64 < s.size
  · have HW := Lib.hid (name_long h64)
    rw [HW.out]
    clear HW
    have h65 : (64 : Int) < (s.size : Int) := by omega
    go_enter Tryz.func112, Tryz.ntmps112
    go_wp2
    go_ret
    exact ⟨rfl, Below.refl _ _⟩
  have h65 : ¬ (64 : Int) < (s.size : Int) := by omega
  obtain ⟨r, hr⟩ : ∃ r, r = nameB s.toList := ⟨_, rfl⟩
  rw [← hr]
  have HR := Lib.hid hr
  clear hr
  rcases Bool.eq_false_or_eq_true (s.toList == [97, 110, 100]) with q0 | q0
  · obtain rfl : r = false := HR.out.trans (name_word (by rw [beq_iff_eq.1 q0]; decide))
    clear HR
    go_enter Tryz.func112, Tryz.ntmps112
    go_wp2
    go_ret
    exact ⟨rfl, Below.refl _ _⟩
  rcases Bool.eq_false_or_eq_true (s.toList == [111, 114]) with q1 | q1
  · obtain rfl : r = false := HR.out.trans (name_word (by rw [beq_iff_eq.1 q1]; decide))
    clear HR
    go_enter Tryz.func112, Tryz.ntmps112
    go_wp2
    go_ret
    exact ⟨rfl, Below.refl _ _⟩
  rcases Bool.eq_false_or_eq_true (s.toList == [105, 102]) with q2 | q2
  · obtain rfl : r = false := HR.out.trans (name_word (by rw [beq_iff_eq.1 q2]; decide))
    clear HR
    go_enter Tryz.func112, Tryz.ntmps112
    go_wp2
    go_ret
    exact ⟨rfl, Below.refl _ _⟩
  rcases Bool.eq_false_or_eq_true (s.toList == [101, 108, 115, 101]) with q3 | q3
  · obtain rfl : r = false := HR.out.trans (name_word (by rw [beq_iff_eq.1 q3]; decide))
    clear HR
    go_enter Tryz.func112, Tryz.ntmps112
    go_wp2
    go_ret
    exact ⟨rfl, Below.refl _ _⟩
  rcases Bool.eq_false_or_eq_true (s.toList == [117, 110, 108, 101, 115, 115]) with q4 | q4
  · obtain rfl : r = false := HR.out.trans (name_word (by rw [beq_iff_eq.1 q4]; decide))
    clear HR
    go_enter Tryz.func112, Tryz.ntmps112
    go_wp2
    go_ret
    exact ⟨rfl, Below.refl _ _⟩
  rcases Bool.eq_false_or_eq_true (s.toList == [119, 105, 116, 104]) with q5 | q5
  · obtain rfl : r = false := HR.out.trans (name_word (by rw [beq_iff_eq.1 q5]; decide))
    clear HR
    go_enter Tryz.func112, Tryz.ntmps112
    go_wp2
    go_ret
    exact ⟨rfl, Below.refl _ _⟩
  rcases Bool.eq_false_or_eq_true (s.toList == [119, 105, 116, 104, 111, 117, 116]) with q6 | q6
  · obtain rfl : r = false := HR.out.trans (name_word (by rw [beq_iff_eq.1 q6]; decide))
    clear HR
    go_enter Tryz.func112, Tryz.ntmps112
    go_wp2
    go_ret
    exact ⟨rfl, Below.refl _ _⟩
  have HN := Lib.hid (not_words q0 q1 q2 q3 q4 q5 q6)
  go_enter Tryz.func112, Tryz.ntmps112
  go_wp2
  clear q0 q1 q2 q3 q4 q5 q6
  go_loop [3] (fun i => ∃ k : Nat, k ≤ s.size ∧ i = .int .i64 (k : Int) ∧ Hid (∀ c ∈ s.toList.take k, sgn c = true)) (fun i => s.size - (intOf i).toNat)
  case atStart => exact ⟨0, by omega, rfl, Lib.hid (by intro c hc; cases hc)⟩
  case round =>
    obtain ⟨k, hk, rfl, hS⟩ := hrel
    by_cases hlt : k < s.size
    · have hlt2 : (k : Int) < (s.size : Int) := by omega
      have i0 : (0 : Int) ≤ (k : Int) := by omega
      cases hc : sgnI ((s[k]).toNat : Int) with
      | true =>
        have HT := Lib.hid (sgn_take hlt hS.out hc)
        have SC := Lib.hid (fun W => rsign_yes _ W hc)
        clear hS hc
        go_wp2_with (go_at_call 158; refine (SC.out _).mono ?_; rintro e w' ⟨rfl, rfl⟩)
        go_round
        case rel => exact ⟨k + 1, by omega, by go_num, HT⟩
        case measure => simp [intOf]; omega
      | false =>
        obtain rfl : r = false := HR.out.trans (name_bad hlt hc)
        have SC := Lib.hid (fun W => rsign_no _ W hc)
        clear hS hc HR
        go_wp2_with (go_at_call 158; refine (SC.out _).mono ?_; rintro e w' ⟨rfl, rfl⟩)
        go_ret
        exact ⟨rfl, Below.refl _ _⟩
    · have hlt2 : ¬ (k : Int) < (s.size : Int) := by omega
      obtain rfl : r = true := HR.out.trans (name_good (by omega) (by omega) (sgn_all hlt hS.out) HN.out)
      clear HR hS
      go_wp2
      go_ret
      exact ⟨rfl, Below.refl _ _⟩
theorem head_at {s : ByteArray} (h : 0 < s.size) : (s.toList.head? == some 47) = ((s[0].toNat : Int) == 47) := by
  have e : s.toList.head? = some s[0] := by
    rw [List.head?_eq_getElem?, List.getElem?_eq_getElem (by rw [size_toList]; exact h), toList_get s 0 h]
  rw [e, Bool.eq_iff_iff, beq_iff_eq, beq_iff_eq]
  constructor
  · intro h2; rw [Option.some.inj h2]; rfl
  · intro h2
    congr 1
    apply UInt8.toNat_inj.1
    have : (47 : UInt8).toNat = 47 := rfl
    omega
set_option maxRecDepth 100000 in
set_option maxHeartbeats 8000000 in
theorem rdfile_any (s : ByteArray) (w : World) (hs : s.size ≤ maxLen) : Calls Tryz.prog 113 #[.string s] w fun e w' => e = .returned (.bool (fileB s.toList)) ∧ Below w.heap.size w w' := by
  have NA := Lib.hid (rdname_any s w hs)
  obtain ⟨r, hr⟩ : ∃ r, r = fileB s.toList := ⟨_, rfl⟩
  rw [← hr]
  unfold fileB at hr
  unfold maxLen at hs
  cases hn : nameB s.toList with
  | false =>
    rw [hn] at NA hr
    obtain rfl : r = false := hr
    clear hn
    go_enter Tryz.func113, Tryz.ntmps113
    go_wp2_with (go_at_call 112; refine NA.out.mono ?_; rintro e w1 ⟨rfl, h⟩)
    go_ret
    exact ⟨rfl, h⟩
  | true =>
    rw [hn] at NA hr
    have h0 : 0 < s.size := by have := (name_iff.1 hn).1; rw [size_toList] at this; exact this
    have h1 : (0 : Int) < (s.size : Int) := by omega
    have HR := Lib.hid (show ((s[0].toNat : Int) == 47) = r from by rw [hr, Bool.true_and, head_at h0])
    clear hn hr
    go_enter Tryz.func113, Tryz.ntmps113
    go_wp2_with fail
    go_at_call 112
    refine NA.out.mono ?_
    rintro e w1 ⟨rfl, h⟩
    go_wp2_with fail
    go_ret
    exact ⟨ret_bool HR.out, h⟩
end Go.Proofs.YtnfagaccbkeikaaGreatDoor
