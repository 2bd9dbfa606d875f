/- EvWalk -/
import Derived.Test.YtcpjignlhlcnpaaDoorPkgNamesRowG08
import Derived.Test.YtcpjignlhlcnpaaDoorShelf
import Derived.Lib.SmallJoins
import Derived.Lib.AppendIntMem
import Derived.WalkSpells
set_option linter.unusedSimpArgs false
set_option linter.unusedVariables false
/- Walks: EVRs by the program: which may be, their texts, the EVR of a text. -/





namespace Go.Proofs.YtcpjignlhlcnpaaDoor
open Go.RowKit Go.Shelf

/- a byte of a word -/
theorem okI_yes {n : Int} (h : (97 ≤ n ∧ n ≤ 122) ∨ (65 ≤ n ∧ n ≤ 90) ∨ (48 ≤ n ∧ n ≤ 57) ∨ n = 46 ∨ n = 95 ∨ n = 43 ∨ n = 126 ∨ n = 94) : okI n = true := decide_eq_true h
theorem okI_no {n : Int} (h : ¬ ((97 ≤ n ∧ n ≤ 122) ∨ (65 ≤ n ∧ n ≤ 90) ∨ (48 ≤ n ∧ n ≤ 57) ∨ n = 46 ∨ n = 95 ∨ n = 43 ∨ n = 126 ∨ n = 94)) : okI n = false := decide_eq_false h
def signs5 : Bytes := [46, 95, 43, 126, 94]
theorem signs_yes {n : Int} (h : n = 46 ∨ n = 95 ∨ n = 43 ∨ n = 126 ∨ n = 94) : ∃ i : Nat, i < 5 ∧ Lib.indexByte signs5 n.toNat.toUInt8 = (i : Int) := by
  rcases h with rfl | rfl | rfl | rfl | rfl
  · exact ⟨0, by decide, by decide⟩
  · exact ⟨1, by decide, by decide⟩
  · exact ⟨2, by decide, by decide⟩
  · exact ⟨3, by decide, by decide⟩
  · exact ⟨4, by decide, by decide⟩
theorem signs_no {n : Int} (h0 : 0 ≤ n) (h1 : n < 256) (h : ¬ (n = 46 ∨ n = 95 ∨ n = 43 ∨ n = 126 ∨ n = 94)) : Lib.indexByte signs5 n.toNat.toUInt8 = -1 := by
  have key : ∀ k : Fin 256, (k.val = 46 ∨ k.val = 95 ∨ k.val = 43 ∨ k.val = 126 ∨ k.val = 94) ∨ Lib.indexByte signs5 k.val.toUInt8 = -1 := by decide +kernel
  rcases key ⟨n.toNat, by omega⟩ with hk | hk
  · dsimp only at hk; omega
  · exact hk
theorem signs_any (n : Int) (i : Int) (w : World) (h : Lib.indexByte signs5 n.toNat.toUInt8 = i) : Calls Tryd.prog 27 #[.string ⟨#[46, 95, 43, 126, 94]⟩, .int .u8 n] w fun e w' => e = .returned (.int .i64 i) ∧ w = w' := by
  refine (Tryd.strings_IndexByte ⟨#[46, 95, 43, 126, 94]⟩ n w).mono ?_
  rintro e w' ⟨rfl, rfl⟩
  subst h
  exact ⟨rfl, rfl⟩
theorem byte_cases (n : Int) : (97 ≤ n ∧ n ≤ 122) ∨ (65 ≤ n ∧ n ≤ 90) ∨ (48 ≤ n ∧ n ≤ 57) ∨ n = 46 ∨ n = 95 ∨ n = 43 ∨ n = 126 ∨ n = 94 ∨ (¬ (n = 46 ∨ n = 95 ∨ n = 43 ∨ n = 126 ∨ n = 94) ∧ (n < 48 ∨ (58 ≤ n ∧ n < 65) ∨ (91 ≤ n ∧ n < 97) ∨ 123 ≤ n)) := by omega
theorem word_take {s : ByteArray} {k : Nat} (hk : k < s.size) (h : ∀ c ∈ s.toList.take k, okc c = true) (hc : okI (s[k].toNat : Int) = true) : ∀ c ∈ s.toList.take (k + 1), okc c = true := by
  rw [toList_take_succ s k hk]
  intro c hm
  rcases List.mem_append.1 hm with hm | hm
  · exact h c hm
  · rw [List.mem_singleton] at hm; subst hm; exact hc
theorem word_bad {s : ByteArray} {k : Nat} (hk : k < s.size) (hc : okI (s[k].toNat : Int) = false) : wordB s.toList = false := by
  cases h : wordB s.toList with
  | false => rfl
  | true =>
    have hm : s[k] ∈ s.toList := by rw [← toList_get s k hk]; exact List.getElem_mem _
    have := (word_iff.1 h).2.2 _ hm
    unfold okc at this
    rw [hc] at this; cases this
theorem word_good {s : ByteArray} (h1 : 1 ≤ s.size) (h2 : s.size ≤ 64) (h : ∀ c ∈ s.toList, okc c = true) : wordB s.toList = true := word_iff.2 ⟨by rw [size_toList]; exact h1, by rw [size_toList]; exact h2, h⟩
theorem word_none {s : ByteArray} (h : s.size = 0) : wordB s.toList = false := by
  cases hw : wordB s.toList with
  | false => rfl
  | true => have := (word_iff.1 hw).1; rw [size_toList] at this; omega
theorem word_long {s : ByteArray} (h : 64 < s.size) : wordB s.toList = false := by
  cases hw : wordB s.toList with
  | false => rfl
  | true => have := (word_iff.1 hw).2.1; rw [size_toList] at this; omega
set_option maxRecDepth 100000 in
set_option maxHeartbeats 8000000 in
theorem word_any (s : ByteArray) (w : World) (hs : s.size ≤ maxLen) : Calls Tryd.prog 29 #[.string s] w fun e w' => e = .returned (.bool (wordB s.toList)) ∧ w = w' := by
  unfold maxLen at hs
  by_cases h0 : s.size = 0
  · have HW := Lib.hid (word_none h0)
    have e0 : s.toList = [] := List.eq_nil_of_length_eq_zero (by rw [size_toList]; exact h0)
    rw [HW.out]
    clear HW
    obtain rfl : s = ⟨#[]⟩ := toList_inj (e0.trans (bs_toList []).symm)
    clear e0 h0
    go_enter Tryd.func29, Tryd.ntmps29
    go_wp2
    go_ret
    exact ⟨rfl, rfl⟩
  have n0 : ¬ s.toList = [] := fun h => h0 (by rw [← size_toList, h]; rfl)
  have n1 : s.toList.isEmpty = false := by simpa using n0
  by_cases h64 : 64 < s.size
  · have HW := Lib.hid (word_long h64)
    rw [HW.out]
    clear HW
    have h65 : (64 : Int) < (s.size : Int) := by omega
    go_enter Tryd.func29, Tryd.ntmps29
    go_wp2
    go_ret
    exact ⟨rfl, rfl⟩
  have h65 : ¬ (64 : Int) < (s.size : Int) := by omega
  obtain ⟨r, hr⟩ : ∃ r, r = wordB s.toList := ⟨_, rfl⟩
  rw [← hr]
  have HR := Lib.hid hr
  clear hr
  go_enter Tryd.func29, Tryd.ntmps29
  go_wp2
  go_loop [14] (fun i => ∃ k : Nat, k ≤ s.size ∧ i = .int .i64 (k : Int) ∧ Hid (∀ c ∈ s.toList.take k, okc c = true)) (fun i => s.size - (intOf i).toNat)
  case atStart => exact ⟨0, by omega, rfl, Lib.hid (by simp)⟩
  case round =>
    obtain ⟨k, hk, rfl, hK⟩ := hrel
    by_cases hlt : k < s.size
    · have HY := Lib.hid (fun h => word_take hlt hK.out h)
      have HN := Lib.hid (fun h => word_bad (s := s) hlt h)
      have b0 : (0 : Int) ≤ (s[k].toNat : Int) := by omega
      have b1 : (s[k].toNat : Int) < 256 := byte_lt _
      generalize hn : (s[k].toNat : Int) = n at *
      have hn' := Lib.hid hn
      clear hn
      have SY := Lib.hid (fun h => signs_yes (n := n) h)
      have SN := Lib.hid (fun h => signs_no (n := n) b0 b1 h)
      have SC := Lib.hid (fun i h W => signs_any n i W h)
      rcases byte_cases n with h | h | h | h | h | h | h | h | ⟨hx, h⟩
      · obtain ⟨c1, c2⟩ := h
        have HG := Lib.hid (HY.out (okI_yes (by omega)))
        have HN2 := hn'.out
        go_wp2
        go_round
        case rel => exact ⟨k + 1, by omega, by go_num, Lib.hid HG.out⟩
        case measure => simp [intOf]; omega
      · obtain ⟨c1, c2⟩ := h
        have HG := Lib.hid (HY.out (okI_yes (by omega)))
        have HN2 := hn'.out
        go_wp2
        go_round
        case rel => exact ⟨k + 1, by omega, by go_num, Lib.hid HG.out⟩
        case measure => simp [intOf]; omega
      · obtain ⟨c1, c2⟩ := h
        have HG := Lib.hid (HY.out (okI_yes (by omega)))
        have HN2 := hn'.out
        go_wp2
        go_round
        case rel => exact ⟨k + 1, by omega, by go_num, Lib.hid HG.out⟩
        case measure => simp [intOf]; omega
      · have HG := Lib.hid (HY.out (okI_yes (by omega)))
        have HN2 := hn'.out
        obtain ⟨i, hi5, hi⟩ := SY.out (by omega)
        have SC2 := Lib.hid (fun W => SC.out i hi W)
        clear hi
        subst h
        go_wp2_with (go_at_call 27; refine (SC2.out _).mono ?_; rintro e w' ⟨rfl, rfl⟩)
        go_round
        case rel => exact ⟨k + 1, by omega, by go_num, Lib.hid HG.out⟩
        case measure => simp [intOf]; omega
      · have HG := Lib.hid (HY.out (okI_yes (by omega)))
        have HN2 := hn'.out
        obtain ⟨i, hi5, hi⟩ := SY.out (by omega)
        have SC2 := Lib.hid (fun W => SC.out i hi W)
        clear hi
        subst h
        go_wp2_with (go_at_call 27; refine (SC2.out _).mono ?_; rintro e w' ⟨rfl, rfl⟩)
        go_round
        case rel => exact ⟨k + 1, by omega, by go_num, Lib.hid HG.out⟩
        case measure => simp [intOf]; omega
      · have HG := Lib.hid (HY.out (okI_yes (by omega)))
        have HN2 := hn'.out
        obtain ⟨i, hi5, hi⟩ := SY.out (by omega)
        have SC2 := Lib.hid (fun W => SC.out i hi W)
        clear hi
        subst h
        go_wp2_with (go_at_call 27; refine (SC2.out _).mono ?_; rintro e w' ⟨rfl, rfl⟩)
        go_round
        case rel => exact ⟨k + 1, by omega, by go_num, Lib.hid HG.out⟩
        case measure => simp [intOf]; omega
      · have HG := Lib.hid (HY.out (okI_yes (by omega)))
        have HN2 := hn'.out
        obtain ⟨i, hi5, hi⟩ := SY.out (by omega)
        have SC2 := Lib.hid (fun W => SC.out i hi W)
        clear hi
        subst h
        go_wp2_with (go_at_call 27; refine (SC2.out _).mono ?_; rintro e w' ⟨rfl, rfl⟩)
        go_round
        case rel => exact ⟨k + 1, by omega, by go_num, Lib.hid HG.out⟩
        case measure => simp [intOf]; omega
      · have HG := Lib.hid (HY.out (okI_yes (by omega)))
        have HN2 := hn'.out
        obtain ⟨i, hi5, hi⟩ := SY.out (by omega)
        have SC2 := Lib.hid (fun W => SC.out i hi W)
        clear hi
        subst h
        go_wp2_with (go_at_call 27; refine (SC2.out _).mono ?_; rintro e w' ⟨rfl, rfl⟩)
        go_round
        case rel => exact ⟨k + 1, by omega, by go_num, Lib.hid HG.out⟩
        case measure => simp [intOf]; omega
      · have HG := Lib.hid (HN.out (okI_no (by omega)))
        have HN2 := hn'.out
        have er : r = false := HR.out.trans HG.out
        subst er
        clear HG
        have SC2 := Lib.hid (fun W => SC.out _ (SN.out hx) W)
        clear hx
        rcases h with h | h | h | h
        · skip
          go_wp2_with (go_at_call 27; refine (SC2.out _).mono ?_; rintro e w' ⟨rfl, rfl⟩)
          go_ret
          exact ⟨rfl, rfl⟩
        · obtain ⟨c1, c2⟩ := h
          go_wp2_with (go_at_call 27; refine (SC2.out _).mono ?_; rintro e w' ⟨rfl, rfl⟩)
          go_ret
          exact ⟨rfl, rfl⟩
        · obtain ⟨c1, c2⟩ := h
          go_wp2_with (go_at_call 27; refine (SC2.out _).mono ?_; rintro e w' ⟨rfl, rfl⟩)
          go_ret
          exact ⟨rfl, rfl⟩
        · skip
          go_wp2_with (go_at_call 27; refine (SC2.out _).mono ?_; rintro e w' ⟨rfl, rfl⟩)
          go_ret
          exact ⟨rfl, rfl⟩
    · have hks : k = s.size := by omega
      have er : r = true := by rw [HR.out]; exact word_good (by omega) (by omega) (by have := hK.out; rw [hks, ← size_toList, List.take_length] at this; exact this)
      subst er
      clear hks
      go_wp2
      go_ret
      exact ⟨rfl, rfl⟩
end Go.Proofs.YtcpjignlhlcnpaaDoor
