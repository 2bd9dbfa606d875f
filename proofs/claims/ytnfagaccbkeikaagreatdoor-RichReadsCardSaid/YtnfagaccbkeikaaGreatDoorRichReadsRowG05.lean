/- EvWalk -/
import Derived.Test.YtnfagaccbkeikaaGreatDoorRichReadsRowG04
import Derived.Test.YtnfagaccbkeikaaGreatDoorShelf
import Derived.Lib.SmallJoins
import Derived.Lib.AppendIntMem
import Derived.WalkSpells
/- Walks: EVRs by the program: which may be, their texts, the EVR of a text. -/





namespace Go.Proofs.YtnfagaccbkeikaaGreatDoor
open Go.RowKit Go.Shelf

/-- what of the library's variables is known -/
def EvIn (w : World) : Prop := 0 < w.heap.size ∧ 3 < w.heap.size ∧ 6 < w.heap.size ∧ 4 < w.heap.size ∧ 5 < w.heap.size ∧ (∃ m, w.cell? ⟨3, 0, none⟩ = some (.int .i64 m)) ∧
  Lib.TabIs Tryz.prog w "internal/strconv.uint64pow10" .u64 Lib.pow10Tab ∧ (∃ t p, w.var? Tryz.prog "strconv.ErrSyntax" = some #[.iface t p]) ∧ (∃ t p, w.var? Tryz.prog "strconv.ErrRange" = some #[.iface t p])
theorem gPow : Tryz.prog.globalNamed "internal/strconv.uint64pow10" = some 6 := by kernel_rfl
theorem gSyn : Tryz.prog.globalNamed "strconv.ErrSyntax" = some 4 := by kernel_rfl
theorem gRan : Tryz.prog.globalNamed "strconv.ErrRange" = some 5 := by kernel_rfl
theorem var_below {w w' : World} {name : String} {g : Nat} (hg : Tryz.prog.globalNamed name = some g) (h : g < w.heap.size) (hb : Below w.heap.size w w') : w'.var? Tryz.prog name = w.var? Tryz.prog name := by
  unfold World.var?
  rw [hg]
  simp only [Option.bind_some]
  rw [hb.block g h]
theorem EvIn.below {w w' : World} (h : EvIn w) (hb : Below w.heap.size w w') : EvIn w' := by
  obtain ⟨h0, h1, h2, h3, h4, ⟨m, h5⟩, h6, ⟨t, p, h7⟩, ⟨t2, p2, h8⟩⟩ := h
  have hs := hb.size
  exact ⟨by omega, by omega, by omega, by omega, by omega, ⟨m, (hb.cell (p := ⟨_, 0, none⟩) h1).trans h5⟩, (var_below gPow h2 hb).trans h6, ⟨t, p, (var_below gSyn h3 hb).trans h7⟩, ⟨t2, p2, (var_below gRan h4 hb).trans h8⟩⟩
theorem EvIn.past {w w' : World} {B : Nat} (h : EvIn w) (hw : w.heap.size ≤ B) (hb : Below B w w') : EvIn w' := h.below (hb.mono hw)

theorem cut_any (s : ByteArray) (d : UInt8) (w : World) (h : EvIn w) (hs : s.size ≤ 4000000000) :
    Calls Tryz.prog 195 #[.string s, .string ⟨#[d]⟩] w fun e w' => e = .returned (.tuple #[.string (bs (Lib.cut s.toList [d]).1), .string (bs (Lib.cut s.toList [d]).2.1), .bool (Lib.cut s.toList [d]).2.2]) ∧ Below w.heap.size w w' := by
  obtain ⟨_, _, _, _, _, ⟨m, h5⟩, _⟩ := h
  refine (Tryz.strings_Cut s ⟨#[d]⟩ m w (by omega) h5).mono ?_
  rintro e w' ⟨rfl, n, rfl⟩
  rw [← Lib.toList_data]
  exact ⟨rfl, ⟨rfl, rfl, rfl, Nat.le_refl _, fun _ _ => rfl⟩⟩
theorem itoa_any (n : Int) (w : World) (h : EvIn w) (h0 : 0 ≤ n) (h1 : n ≤ 2147483647) :
    Calls Tryz.prog 204 #[.int .i64 n] w fun e w' => e = .returned (.string (bs (Lib.itoa n))) ∧ Below w.heap.size w w' := by
  refine (Tryz.strconv_Itoa n (by omega) (by omega) w h.2.2.2.2.2.2.1).mono ?_
  rintro e w' ⟨rfl, k, os, rfl⟩
  exact ⟨rfl, Lib.below_grow _ _ (Nat.le_refl _) k os⟩
/-- what Atoi hands back -/
def atoiN (s : Bytes) : Int := match Lib.atoiAll s with | .ok v => v | .syntax => 0 | .range => Lib.atoiSat s
def AtoiPost (s : Bytes) (w : World) (e : Ending) (w' : World) : Prop := ∃ x, e = .returned (.tuple #[.int .i64 (atoiN s), x]) ∧ ((∃ v, Lib.atoiAll s = .ok v) ∧ x = .nilIface ∨ (∀ v, Lib.atoiAll s ≠ .ok v) ∧ ∃ N, x = .iface 260 (.pointer (some ⟨N, 0, none⟩))) ∧ Below w.heap.size w w'
theorem atoi_any (s : ByteArray) (w : World) (h : EvIn w) (hs : s.size ≤ 4000000000) : Calls Tryz.prog 196 #[.string s] w (AtoiPost s.toList w) := by
  obtain ⟨_, _, _, _, _, _, _, ⟨t, p, h7⟩, ⟨t2, p2, h8⟩⟩ := h
  have ed : s.data.toList = s.toList := (Lib.toList_data s).symm
  cases hv : Lib.atoiAll s.toList with
  | ok v =>
    refine (Tryz.strconv_Atoi_ok s (by omega) v (by rw [ed]; exact hv) w).mono ?_
    rintro e w' ⟨rfl, hw⟩
    refine ⟨_, by unfold atoiN; rw [hv], .inl ⟨⟨v, hv⟩, rfl⟩, ?_⟩
    rcases hw with rfl | ⟨t, rfl⟩
    · exact Below.refl _ _
    · exact Joins.below_bytesWorld _ _ _ _ (Nat.le_refl _)
  | «syntax» =>
    refine (Tryz.strconv_Atoi_syntax_var s (by omega) (by rw [ed]; exact hv) t p w h7).mono ?_
    rintro e w' ⟨N, rfl, _, _, hb⟩
    exact ⟨_, by unfold atoiN; rw [hv], .inr ⟨(by intro v hh; rw [hh] at hv; cases hv), N, rfl⟩, hb⟩
  | range =>
    refine (Tryz.strconv_Atoi_range_var s (by omega) (by rw [ed]; exact hv) t2 p2 w h8).mono ?_
    rintro e w' ⟨N, rfl, _, _, hb⟩
    exact ⟨_, by unfold atoiN; rw [hv, ed], .inr ⟨(by intro v hh; rw [hh] at hv; cases hv), N, rfl⟩, hb⟩

/- a byte of a word -/
theorem okI_yes {n : Int} (h : (97 ≤ n ∧ n ≤ 122) ∨ (65 ≤ n ∧ n ≤ 90) ∨ (48 ≤ n ∧ n ≤ 57) ∨ n = 46 ∨ n = 95 ∨ n = 43 ∨ n = 126 ∨ n = 94) : okI n = true := decide_eq_true h
theorem okI_no {n : Int} (h : ¬ ((97 ≤ n ∧ n ≤ 122) ∨ (65 ≤ n ∧ n ≤ 90) ∨ (48 ≤ n ∧ n ≤ 57) ∨ n = 46 ∨ n = 95 ∨ n = 43 ∨ n = 126 ∨ n = 94)) : okI n = false := decide_eq_false h
def signs5 : Bytes := [46, 95, 43, 126, 94]
theorem signs_yes {n : Int} (h : n = 46 ∨ n = 95 ∨ n = 43 ∨ n = 126 ∨ n = 94) : ∃ i : Nat, i < 5 ∧ Lib.indexByte signs5 n.toNat.toUInt8 = (i : Int) := by
  rcases h with rfl | rfl | rfl | rfl | rfl
  · exact ⟨0, by decide, by decide⟩
  · exact ⟨1, by decide, by decide⟩
  · exact ⟨2, by decide, by decide⟩
  · exact ⟨3, by decide, by decide⟩
  · exact ⟨4, by decide, by decide⟩
theorem signs_no {n : Int} (h0 : 0 ≤ n) (h1 : n < 256) (h : ¬ (n = 46 ∨ n = 95 ∨ n = 43 ∨ n = 126 ∨ n = 94)) : Lib.indexByte signs5 n.toNat.toUInt8 = -1 := by
  have key : ∀ k : Fin 256, (k.val = 46 ∨ k.val = 95 ∨ k.val = 43 ∨ k.val = 126 ∨ k.val = 94) ∨ Lib.indexByte signs5 k.val.toUInt8 = -1 := by decide +kernel
  rcases key ⟨n.toNat, by omega⟩ with hk | hk
  · dsimp only at hk; omega
  · exact hk
theorem signs_any (n : Int) (i : Int) (w : World) (h : Lib.indexByte signs5 n.toNat.toUInt8 = i) : Calls Tryz.prog 139 #[.string ⟨#[46, 95, 43, 126, 94]⟩, .int .u8 n] w fun e w' => e = .returned (.int .i64 i) ∧ w = w' := by
  refine (Tryz.strings_IndexByte ⟨#[46, 95, 43, 126, 94]⟩ n w).mono ?_
  rintro e w' ⟨rfl, rfl⟩
  subst h
  exact ⟨rfl, rfl⟩
theorem byte_cases (n : Int) : (97 ≤ n ∧ n ≤ 122) ∨ (65 ≤ n ∧ n ≤ 90) ∨ (48 ≤ n ∧ n ≤ 57) ∨ n = 46 ∨ n = 95 ∨ n = 43 ∨ n = 126 ∨ n = 94 ∨ (¬ (n = 46 ∨ n = 95 ∨ n = 43 ∨ n = 126 ∨ n = 94) ∧ (n < 48 ∨ (58 ≤ n ∧ n < 65) ∨ (91 ≤ n ∧ n < 97) ∨ 123 ≤ n)) := by omega
theorem word_take {s : ByteArray} {k : Nat} (hk : k < s.size) (h : ∀ c ∈ s.toList.take k, okc c = true) (hc : okI (s[k].toNat : Int) = true) : ∀ c ∈ s.toList.take (k + 1), okc c = true := by
  rw [toList_take_succ s k hk]
  intro c hm
  rcases List.mem_append.1 hm with hm | hm
  · exact h c hm
  · rw [List.mem_singleton] at hm; subst hm; exact hc
theorem word_bad {s : ByteArray} {k : Nat} (hk : k < s.size) (hc : okI (s[k].toNat : Int) = false) : wordB s.toList = false := by
  cases h : wordB s.toList with
  | false => rfl
  | true =>
    have hm : s[k] ∈ s.toList := by rw [← toList_get s k hk]; exact List.getElem_mem _
    have := (word_iff.1 h).2.2 _ hm
    unfold okc at this
    rw [hc] at this; cases this
theorem word_good {s : ByteArray} (h1 : 1 ≤ s.size) (h2 : s.size ≤ 64) (h : ∀ c ∈ s.toList, okc c = true) : wordB s.toList = true := word_iff.2 ⟨by rw [size_toList]; exact h1, by rw [size_toList]; exact h2, h⟩
theorem word_none {s : ByteArray} (h : s.size = 0) : wordB s.toList = false := by
  cases hw : wordB s.toList with
  | false => rfl
  | true => have := (word_iff.1 hw).1; rw [size_toList] at this; omega
theorem word_long {s : ByteArray} (h : 64 < s.size) : wordB s.toList = false := by
  cases hw : wordB s.toList with
  | false => rfl
  | true => have := (word_iff.1 hw).2.1; rw [size_toList] at this; omega
set_option maxRecDepth 100000 in
set_option maxHeartbeats 8000000 in
theorem word_any (s : ByteArray) (w : World) (hs : s.size ≤ maxLen) : Calls Tryz.prog 141 #[.string s] w fun e w' => e = .returned (.bool (wordB s.toList)) ∧ w = w' := by
  unfold maxLen at hs
  by_cases h0 : s.size = 0
  · have HW := Lib.hid (word_none h0)
    have e0 : s.toList = [] := List.eq_nil_of_length_eq_zero (by rw [size_toList]; exact h0)
    rw [HW.out]
    clear HW
    obtain rfl : s = ⟨#[]⟩ := toList_inj (e0.trans (bs_toList []).symm)
    clear e0 h0
    go_enter Tryz.func141, Tryz.ntmps141
    go_wp2
    go_ret
    exact ⟨rfl, rfl⟩
  have n0 : ¬ s.toList = [] := fun h => h0 (by rw [← size_toList, h]; rfl)
  have n1 : s.toList.isEmpty = false := by simpa using n0
  by_cases h64 : 64 < s.size
  · have HW := Lib.hid (word_long h64)
    rw [HW.out]
    clear HW
    have h65 : (64 : Int) < (s.size : Int) := by omega
    go_enter Tryz.func141, Tryz.ntmps141
    go_wp2
    go_ret
    exact ⟨rfl, rfl⟩
  have h65 : ¬ (64 : Int) < (s.size : Int) := by omega
  obtain ⟨r, hr⟩ : ∃ r, r = wordB s.toList := ⟨_, rfl⟩
  rw [← hr]
  have HR := Lib.hid hr
  clear hr
  go_enter Tryz.func141, Tryz.ntmps141
  go_wp2
  go_loop [14] (fun i => ∃ k : Nat, k ≤ s.size ∧ i = .int .i64 (k : Int) ∧ Hid (∀ c ∈ s.toList.take k, okc c = true)) (fun i => s.size - (intOf i).toNat)
  case atStart => exact ⟨0, by omega, rfl, Lib.hid (by simp)⟩
  case round =>
    obtain ⟨k, hk, rfl, hK⟩ := hrel
    by_cases hlt : k < s.size
    · have HY := Lib.hid (fun h => word_take hlt hK.out h)
      have HN := Lib.hid (fun h => word_bad (s := s) hlt h)
      have b0 : (0 : Int) ≤ (s[k].toNat : Int) := by omega
      have b1 : (s[k].toNat : Int) < 256 := byte_lt _
      generalize hn : (s[k].toNat : Int) = n at *
      have hn' := Lib.hid hn
      clear hn
      have SY := Lib.hid (fun h => signs_yes (n := n) h)
      have SN := Lib.hid (fun h => signs_no (n := n) b0 b1 h)
      have SC := Lib.hid (fun i h W => signs_any n i W h)
      rcases byte_cases n with h | h | h | h | h | h | h | h | ⟨hx, h⟩
      · obtain ⟨c1, c2⟩ := h
        have HG := Lib.hid (HY.out (okI_yes (by omega)))
        have HN2 := hn'.out
        go_wp2
        go_round
        case rel => exact ⟨k + 1, by omega, by go_num, Lib.hid HG.out⟩
        case measure => simp [intOf]; omega
      · obtain ⟨c1, c2⟩ := h
        have HG := Lib.hid (HY.out (okI_yes (by omega)))
        have HN2 := hn'.out
        go_wp2
        go_round
        case rel => exact ⟨k + 1, by omega, by go_num, Lib.hid HG.out⟩
        case measure => simp [intOf]; omega
      · obtain ⟨c1, c2⟩ := h
        have HG := Lib.hid (HY.out (okI_yes (by omega)))
        have HN2 := hn'.out
        go_wp2
        go_round
        case rel => exact ⟨k + 1, by omega, by go_num, Lib.hid HG.out⟩
        case measure => simp [intOf]; omega
      · have HG := Lib.hid (HY.out (okI_yes (by omega)))
        have HN2 := hn'.out
        obtain ⟨i, hi5, hi⟩ := SY.out (by omega)
        have SC2 := Lib.hid (fun W => SC.out i hi W)
        clear hi
        subst h
        go_wp2_with (go_at_call 139; refine (SC2.out _).mono ?_; rintro e w' ⟨rfl, rfl⟩)
        go_round
        case rel => exact ⟨k + 1, by omega, by go_num, Lib.hid HG.out⟩
        case measure => simp [intOf]; omega
      · have HG := Lib.hid (HY.out (okI_yes (by omega)))
        have HN2 := hn'.out
        obtain ⟨i, hi5, hi⟩ := SY.out (by omega)
        have SC2 := Lib.hid (fun W => SC.out i hi W)
        clear hi
        subst h
        go_wp2_with (go_at_call 139; refine (SC2.out _).mono ?_; rintro e w' ⟨rfl, rfl⟩)
        go_round
        case rel => exact ⟨k + 1, by omega, by go_num, Lib.hid HG.out⟩
        case measure => simp [intOf]; omega
      · have HG := Lib.hid (HY.out (okI_yes (by omega)))
        have HN2 := hn'.out
        obtain ⟨i, hi5, hi⟩ := SY.out (by omega)
        have SC2 := Lib.hid (fun W => SC.out i hi W)
        clear hi
        subst h
        go_wp2_with (go_at_call 139; refine (SC2.out _).mono ?_; rintro e w' ⟨rfl, rfl⟩)
        go_round
        case rel => exact ⟨k + 1, by omega, by go_num, Lib.hid HG.out⟩
        case measure => simp [intOf]; omega
      · have HG := Lib.hid (HY.out (okI_yes (by omega)))
        have HN2 := hn'.out
        obtain ⟨i, hi5, hi⟩ := SY.out (by omega)
        have SC2 := Lib.hid (fun W => SC.out i hi W)
        clear hi
        subst h
        go_wp2_with (go_at_call 139; refine (SC2.out _).mono ?_; rintro e w' ⟨rfl, rfl⟩)
        go_round
        case rel => exact ⟨k + 1, by omega, by go_num, Lib.hid HG.out⟩
        case measure => simp [intOf]; omega
      · have HG := Lib.hid (HY.out (okI_yes (by omega)))
        have HN2 := hn'.out
        obtain ⟨i, hi5, hi⟩ := SY.out (by omega)
        have SC2 := Lib.hid (fun W => SC.out i hi W)
        clear hi
        subst h
        go_wp2_with (go_at_call 139; refine (SC2.out _).mono ?_; rintro e w' ⟨rfl, rfl⟩)
        go_round
        case rel => exact ⟨k + 1, by omega, by go_num, Lib.hid HG.out⟩
        case measure => simp [intOf]; omega
      · have HG := Lib.hid (HN.out (okI_no (by omega)))
        have HN2 := hn'.out
        have er : r = false := HR.out.trans HG.out
        subst er
        clear HG
        have SC2 := Lib.hid (fun W => SC.out _ (SN.out hx) W)
        clear hx
        rcases h with h | h | h | h
        · skip
          go_wp2_with (go_at_call 139; refine (SC2.out _).mono ?_; rintro e w' ⟨rfl, rfl⟩)
          go_ret
          exact ⟨rfl, rfl⟩
        · obtain ⟨c1, c2⟩ := h
          go_wp2_with (go_at_call 139; refine (SC2.out _).mono ?_; rintro e w' ⟨rfl, rfl⟩)
          go_ret
          exact ⟨rfl, rfl⟩
        · obtain ⟨c1, c2⟩ := h
          go_wp2_with (go_at_call 139; refine (SC2.out _).mono ?_; rintro e w' ⟨rfl, rfl⟩)
          go_ret
          exact ⟨rfl, rfl⟩
        · skip
          go_wp2_with (go_at_call 139; refine (SC2.out _).mono ?_; rintro e w' ⟨rfl, rfl⟩)
          go_ret
          exact ⟨rfl, rfl⟩
    · have hks : k = s.size := by omega
      have er : r = true := by rw [HR.out]; exact word_good (by omega) (by omega) (by have := hK.out; rw [hks, ← size_toList, List.take_length] at this; exact this)
      subst er
      clear hks
      go_wp2
      go_ret
      exact ⟨rfl, rfl⟩
set_option maxRecDepth 100000 in
set_option maxHeartbeats 8000000 in
theorem rword_any (s : ByteArray) (w : World) (hs : s.size ≤ maxLen) : Calls Tryz.prog 159 #[.string s] w fun e w' => e = .returned (.bool (wordB s.toList)) ∧ w = w' := by
  unfold maxLen at hs
  obtain ⟨r, hr⟩ : ∃ r, r = wordB s.toList := ⟨_, rfl⟩
  rw [← hr]
  have HR := Lib.hid hr
  clear hr
  go_enter Tryz.func159, Tryz.ntmps159
  go_wp2
  go_loop [3] (fun i => ∃ k : Nat, k ≤ s.size ∧ i = .int .i64 (k : Int) ∧ Hid (∀ c ∈ s.toList.take k, okc c = true)) (fun i => s.size - (intOf i).toNat)
  case atStart => exact ⟨0, by omega, rfl, Lib.hid (by simp)⟩
  case round =>
    obtain ⟨k, hk, rfl, hK⟩ := hrel
    by_cases hlt : k < s.size
    · have HY := Lib.hid (fun h => word_take hlt hK.out h)
      have HN := Lib.hid (fun h => word_bad (s := s) hlt h)
      have b0 : (0 : Int) ≤ (s[k].toNat : Int) := by omega
      have b1 : (s[k].toNat : Int) < 256 := byte_lt _
      generalize hn : (s[k].toNat : Int) = n at *
      have hn' := Lib.hid hn
      clear hn
      rcases byte_cases n with h | h | h | h | h | h | h | h | ⟨hx, h⟩
      · obtain ⟨c1, c2⟩ := h
        have HG := Lib.hid (HY.out (okI_yes (by omega)))
        have HN2 := hn'.out
        go_wp2
        go_round
        case rel => exact ⟨k + 1, by omega, by go_num, Lib.hid HG.out⟩
        case measure => simp [intOf]; omega
      · obtain ⟨c1, c2⟩ := h
        have HG := Lib.hid (HY.out (okI_yes (by omega)))
        have HN2 := hn'.out
        go_wp2
        go_round
        case rel => exact ⟨k + 1, by omega, by go_num, Lib.hid HG.out⟩
        case measure => simp [intOf]; omega
      · obtain ⟨c1, c2⟩ := h
        have HG := Lib.hid (HY.out (okI_yes (by omega)))
        have HN2 := hn'.out
        go_wp2
        go_round
        case rel => exact ⟨k + 1, by omega, by go_num, Lib.hid HG.out⟩
        case measure => simp [intOf]; omega
      · have HG := Lib.hid (HY.out (okI_yes (by omega)))
        have HN2 := hn'.out
        subst h
        go_wp2
        go_round
        case rel => exact ⟨k + 1, by omega, by go_num, Lib.hid HG.out⟩
        case measure => simp [intOf]; omega
      · have HG := Lib.hid (HY.out (okI_yes (by omega)))
        have HN2 := hn'.out
        subst h
        go_wp2
        go_round
        case rel => exact ⟨k + 1, by omega, by go_num, Lib.hid HG.out⟩
        case measure => simp [intOf]; omega
      · have HG := Lib.hid (HY.out (okI_yes (by omega)))
        have HN2 := hn'.out
        subst h
        go_wp2
        go_round
        case rel => exact ⟨k + 1, by omega, by go_num, Lib.hid HG.out⟩
        case measure => simp [intOf]; omega
      · have HG := Lib.hid (HY.out (okI_yes (by omega)))
        have HN2 := hn'.out
        subst h
        go_wp2
        go_round
        case rel => exact ⟨k + 1, by omega, by go_num, Lib.hid HG.out⟩
        case measure => simp [intOf]; omega
      · have HG := Lib.hid (HY.out (okI_yes (by omega)))
        have HN2 := hn'.out
        subst h
        go_wp2
        go_round
        case rel => exact ⟨k + 1, by omega, by go_num, Lib.hid HG.out⟩
        case measure => simp [intOf]; omega
      · have HG := Lib.hid (HN.out (okI_no (by omega)))
        have HN2 := hn'.out
        have er : r = false := HR.out.trans HG.out
        subst er
        clear HG
        have x1 : (n == 46) = false := by simp only [beq_eq_false_iff_ne]; omega
        have x2 : (n == 95) = false := by simp only [beq_eq_false_iff_ne]; omega
        have x3 : (n == 43) = false := by simp only [beq_eq_false_iff_ne]; omega
        have x4 : (n == 126) = false := by simp only [beq_eq_false_iff_ne]; omega
        have x5 : (n == 94) = false := by simp only [beq_eq_false_iff_ne]; omega
        have y1 : ¬ n = 46 := by omega
        have y2 : ¬ n = 95 := by omega
        have y3 : ¬ n = 43 := by omega
        have y4 : ¬ n = 126 := by omega
        have y5 : ¬ n = 94 := by omega
        have u1 : (n != 46) = true := by simp only [bne_iff_ne, ne_eq]; omega
        have u2 : (n != 95) = true := by simp only [bne_iff_ne, ne_eq]; omega
        have u3 : (n != 43) = true := by simp only [bne_iff_ne, ne_eq]; omega
        have u4 : (n != 126) = true := by simp only [bne_iff_ne, ne_eq]; omega
        have u5 : (n != 94) = true := by simp only [bne_iff_ne, ne_eq]; omega
        clear hx
        rcases h with h | h | h | h
        · skip
          go_wp2
          go_ret
          exact ⟨rfl, rfl⟩
        · obtain ⟨c1, c2⟩ := h
          have d57 : decide (n ≤ 57) = false := decide_eq_false (by omega)
          go_wp2
          go_ret
          exact ⟨rfl, rfl⟩
        · obtain ⟨c1, c2⟩ := h
          have d90 : decide (n ≤ 90) = false := decide_eq_false (by omega)
          have d57 : decide (n ≤ 57) = false := decide_eq_false (by omega)
          go_wp2
          go_ret
          exact ⟨rfl, rfl⟩
        · skip
          have d122 : decide (n ≤ 122) = false := decide_eq_false (by omega)
          have d90 : decide (n ≤ 90) = false := decide_eq_false (by omega)
          have d57 : decide (n ≤ 57) = false := decide_eq_false (by omega)
          go_wp2
          go_ret
          exact ⟨rfl, rfl⟩
    · have hks : k = s.size := by omega
      by_cases z0 : 1 ≤ s.size
      · by_cases z1 : s.size ≤ 64
        · have er : r = true := by rw [HR.out]; exact word_good (by omega) (by omega) (by have := hK.out; rw [hks, ← size_toList, List.take_length] at this; exact this)
          subst er
          clear hks
          have z2 : (1 : Int) ≤ (s.size : Int) := by omega
          have z3 : (s.size : Int) ≤ 64 := by omega
          have z4 : decide ((s.size : Int) ≤ 64) = true := decide_eq_true z3
          go_wp2
          go_ret
          exact ⟨rfl, rfl⟩
        · have er : r = false := by rw [HR.out]; exact word_long (by omega)
          subst er
          clear hks
          have z2 : (1 : Int) ≤ (s.size : Int) := by omega
          have z3 : (64 : Int) < (s.size : Int) := by omega
          have z4 : decide ((s.size : Int) ≤ 64) = false := decide_eq_false (by omega)
          go_wp2
          go_ret
          exact ⟨rfl, rfl⟩
      · have er : r = false := by rw [HR.out]; exact word_none (by omega)
        subst er
        clear hks
        have z2 : (s.size : Int) < 1 := by omega
        go_wp2
        go_ret
        exact ⟨rfl, rfl⟩
end Go.Proofs.YtnfagaccbkeikaaGreatDoor
