/- VmW0 -/
import Derived.Test.YtcpjignlhlcnpaaDoorPkgNamesRowG01
import Derived.Deep.QuietTactic
import Derived.BigQuiet
set_option linter.unusedSimpArgs false
set_option linter.unusedVariables false
/- Walks: the plain functions of vercmp, of its document, and of Go's cmp and strings that it asks. -/



namespace Go.Proofs.YtcpjignlhlcnpaaDoor
open Go.RowKit

theorem kd_low {n : Int} (h1 : 97 ≤ n) (h2 : n ≤ 122) : kd n = 4 := by unfold kd; rw [if_neg (by omega), if_neg (by omega), if_pos (.inl ⟨h1, h2⟩)]
theorem kd_up {n : Int} (h1 : 65 ≤ n) (h2 : n ≤ 90) : kd n = 4 := by unfold kd; rw [if_neg (by omega), if_neg (by omega), if_pos (.inr ⟨h1, h2⟩)]
theorem kd_dig {n : Int} (h1 : 48 ≤ n) (h2 : n ≤ 57) : kd n = 5 := by unfold kd; rw [if_neg (by omega), if_neg (by omega), if_neg (by omega), if_pos ⟨h1, h2⟩]
theorem kd_no {n : Int} (h1 : n ≠ 126) (h2 : n ≠ 94) (h3 : ¬ (97 ≤ n ∧ n ≤ 122)) (h4 : ¬ (65 ≤ n ∧ n ≤ 90)) (h5 : ¬ (48 ≤ n ∧ n ≤ 57)) : kd n = 0 := by
  unfold kd; rw [if_neg h1, if_neg h2, if_neg (by omega), if_neg h5]

set_option maxHeartbeats 1000000 in
theorem kind_any (n : Int) (w : World) : Calls Tryd.prog 76 #[.int .u8 n] w fun e w' => e = .returned (.int .u8 (kd n)) ∧ w = w' := by
  by_cases h1 : n = 126
  · subst h1
    go_enter Tryd.func76, Tryd.ntmps76
    go_wp2
    all_goals (go_ret; exact ⟨rfl, rfl⟩)
  by_cases h2 : n = 94
  · subst h2
    go_enter Tryd.func76, Tryd.ntmps76
    go_wp2
    all_goals (go_ret; exact ⟨rfl, rfl⟩)
  have b1 : (n == 126) = false := by simpa using h1
  have b2 : (n == 94) = false := by simpa using h2
  by_cases c1 : 97 ≤ n <;> by_cases c2 : n ≤ 122 <;> by_cases c3 : 65 ≤ n <;> by_cases c4 : n ≤ 90 <;> by_cases c5 : 48 ≤ n <;> by_cases c6 : n ≤ 57 <;> first | (exfalso; omega) | skip
  all_goals (go_enter Tryd.func76, Tryd.ntmps76; go_wp2; go_ret; refine ⟨ret_int ?_, rfl⟩; first | (rw [kd_low (by omega) (by omega)]) | (rw [kd_up (by omega) (by omega)]) | (rw [kd_dig (by omega) (by omega)]) | (rw [kd_no h1 h2 (by omega) (by omega) (by omega)]))
/-- zeros ahead cut off -/
def zcut (l : Bytes) : Bytes := l.dropWhile (· == 48)
set_option maxHeartbeats 1000000 in
theorem trimByte_any (s : ByteArray) (_hs : s.size ≤ 9223372036854775807) (w : World) : Calls Tryd.prog 80 #[.string s, .int .u8 48] w fun e w' => e = .returned (.string (bs (zcut s.toList))) ∧ w = w' := by
  go_enter Tryd.func80, Tryd.ntmps80
  go_wp2
  go_loop [0] (fun e => ∃ t : ByteArray, e = .string t ∧ t.size ≤ s.size ∧ zcut t.toList = zcut s.toList) (fun e => match e with | .string t => t.size | _ => 0)
  case atStart => exact ⟨s, rfl, Nat.le_refl _, rfl⟩
  case round =>
    obtain ⟨t, rfl, hl, he⟩ := hrel
    by_cases h0 : 0 < t.size
    · have hd := toList_drop t 0 h0
      simp only [List.drop_zero, Nat.zero_add] at hd
      by_cases hb : t[0] = 48
      · have h48 : ((t[0].toNat : Int) == 48) = true := by rw [hb]; rfl
        have ex : t.extract 1 t.size = bs (t.toList.drop 1) := by
          rw [bs_extract]
          congr 1
          exact List.take_of_length_le (by rw [List.length_drop, size_toList]; omega)
        have hz : zcut (bs (t.toList.drop 1)).toList = zcut s.toList := by
          rw [← he, hd, bs_toList, hb]; simp [zcut]
        have hd2 := Lib.hid hd
        have hz2 := Lib.hid hz
        have ex2 := Lib.hid ex
        clear hd hz ex
        go_wp2
        go_round
        case rel => exact ⟨_, rfl, by simp; omega, by rw [ex2.out]; exact hz2.out⟩
        case measure => simp; omega
      · have h48 : ((t[0].toNat : Int) == 48) = false := (show ((t[0].toNat : Int) == 48) = (t[0] == 48) from beq_toNat t[0] 48 (by omega)).trans (by simpa using hb)
        have hz : t = bs (zcut s.toList) := by
          rw [← he, hd]
          have hb2 : (t[0] == 48) = false := by simpa using hb
          simp only [zcut, List.dropWhile_cons, hb2, Bool.false_eq_true, if_false]
          rw [← hd, bs_of]
        have hz2 := Lib.hid hz
        clear hz hd he
        go_wp2
        go_ret
        exact ⟨ret_str hz2.out, rfl⟩
    · have hz : t = bs (zcut s.toList) := by
        rw [← he]
        have : t.toList = [] := List.eq_nil_of_length_eq_zero (by rw [size_toList]; omega)
        rw [this]
        exact (bs_of t).symm.trans (by rw [this]; rfl)
      have hz2 := Lib.hid hz
      clear hz he
      go_wp2
      go_ret
      exact ⟨ret_str hz2.out, rfl⟩
set_option maxRecDepth 100000 in
set_option maxHeartbeats 1000000 in
theorem trim_any (s : ByteArray) (hs : s.size ≤ 9223372036854775807) (w : World) : Calls Tryd.prog 77 #[.string s, .string ⟨#[48]⟩] w fun e w' => e = .returned (.string (bs (zcut s.toList))) ∧ w = w' := by
  have T := Lib.hid (fun W => trimByte_any s hs W)
  have h48 : ((({ data := #[48] } : ByteArray)[0]'(by decide)).toNat : Int) = 48 := rfl
  by_cases hE : s.toList = []
  · have hr := Lib.hid (show s = bs (zcut s.toList) by rw [hE]; exact (bs_of s).symm.trans (by rw [hE]; rfl))
    go_enter Tryd.func77, Tryd.ntmps77
    go_wp2
    go_ret
    exact ⟨ret_str hr.out, rfl⟩
  · have hi : s.toList.isEmpty = false := by simpa using hE
    go_enter Tryd.func77, Tryd.ntmps77
    go_wp2_with fail
    go_at_call 80
    refine (T.out w).mono ?_
    rintro e w1 ⟨rfl, rfl⟩
    go_wp2
    go_ret
    exact ⟨rfl, rfl⟩

/- the parts compared -/
def cmpI (a b : Int) : Int := if a < b then -1 else if b < a then 1 else 0
def cmpL (a b : Bytes) : Int := if Op.bytesLess a b then -1 else if a == b then 0 else 1
def cmpP (a b : Prt) : Int := if cmpI a.1 b.1 ≠ 0 then cmpI a.1 b.1 else if a.1 = 5 ∧ b.1 = 5 ∧ cmpI a.2.length b.2.length ≠ 0 then cmpI a.2.length b.2.length else cmpL a.2 b.2

theorem nan_int (x : Int) (w : World) : Calls Tryd.prog 68 #[.int .i64 x] w fun e w' => e = .returned (.bool false) ∧ w = w' := by
  go_enter Tryd.func68, Tryd.ntmps68
  go_wp2
  go_ret
  exact ⟨by simp, rfl⟩
theorem nan_u8 (x : Int) (w : World) : Calls Tryd.prog 78 #[.int .u8 x] w fun e w' => e = .returned (.bool false) ∧ w = w' := by
  go_enter Tryd.func78, Tryd.ntmps78
  go_wp2
  go_ret
  exact ⟨by simp, rfl⟩
theorem nan_str (x : ByteArray) (w : World) : Calls Tryd.prog 79 #[.string x] w fun e w' => e = .returned (.bool false) ∧ w = w' := by
  go_enter Tryd.func79, Tryd.ntmps79
  go_wp2
  go_ret
  exact ⟨by simp, rfl⟩
theorem cmp_int (a b : Int) (w : World) : Calls Tryd.prog 64 #[.int .i64 a, .int .i64 b] w fun e w' => e = .returned (.int .i64 (cmpI a b)) ∧ w = w' := by
  unfold cmpI
  by_cases h1 : a < b
  · have h2 : ¬ b < a := by omega
    go_enter Tryd.func64, Tryd.ntmps64
    go_wp2_with (go_at_call 68; refine (nan_int _ _).mono ?_; rintro e w' ⟨rfl, rfl⟩)
    go_ret
    exact ⟨by simp, rfl⟩
  by_cases h2 : b < a
  · go_enter Tryd.func64, Tryd.ntmps64
    go_wp2_with (go_at_call 68; refine (nan_int _ _).mono ?_; rintro e w' ⟨rfl, rfl⟩)
    go_ret
    exact ⟨by simp, rfl⟩
  · go_enter Tryd.func64, Tryd.ntmps64
    go_wp2_with (go_at_call 68; refine (nan_int _ _).mono ?_; rintro e w' ⟨rfl, rfl⟩)
    go_ret
    exact ⟨by simp, rfl⟩
theorem cmp_u8 (a b : Int) (w : World) : Calls Tryd.prog 73 #[.int .u8 a, .int .u8 b] w fun e w' => e = .returned (.int .i64 (cmpI a b)) ∧ w = w' := by
  unfold cmpI
  by_cases h1 : a < b
  · have h2 : ¬ b < a := by omega
    go_enter Tryd.func73, Tryd.ntmps73
    go_wp2_with (go_at_call 78; refine (nan_u8 _ _).mono ?_; rintro e w' ⟨rfl, rfl⟩)
    go_ret
    exact ⟨by simp, rfl⟩
  by_cases h2 : b < a
  · go_enter Tryd.func73, Tryd.ntmps73
    go_wp2_with (go_at_call 78; refine (nan_u8 _ _).mono ?_; rintro e w' ⟨rfl, rfl⟩)
    go_ret
    exact ⟨by simp, rfl⟩
  · go_enter Tryd.func73, Tryd.ntmps73
    go_wp2_with (go_at_call 78; refine (nan_u8 _ _).mono ?_; rintro e w' ⟨rfl, rfl⟩)
    go_ret
    exact ⟨by simp, rfl⟩
theorem cmp_str (a b : ByteArray) (w : World) : Calls Tryd.prog 74 #[.string a, .string b] w fun e w' => e = .returned (.int .i64 (cmpL a.toList b.toList)) ∧ w = w' := by
  unfold cmpL
  cases h1 : Op.bytesLess a.toList b.toList <;> cases h2 : a.toList == b.toList
  all_goals
    go_enter Tryd.func74, Tryd.ntmps74
    go_wp2_with (go_at_call 79; refine (nan_str _ _).mono ?_; rintro e w' ⟨rfl, rfl⟩)
    go_ret
    exact ⟨rfl, rfl⟩
end Go.Proofs.YtcpjignlhlcnpaaDoor
