/- DepName -/
import Derived.Test.YtcpjignlhlcnpaaDoorPkgNamesRowG12
import Derived.Test.YtcpjignlhlcnpaaDoorPkgNamesRowG10
import Derived.Laws.RangeAny
set_option linter.unusedSimpArgs false
set_option linter.unusedVariables false
/- Walks: names of dependencies, by the program and by the document. -/



namespace Go.Proofs.YtcpjignlhlcnpaaDoor
open Go.RowKit Go.Shelf

/-- what of the package-level variables is known: the library's, the Ops' table, the words that are no names -/
def WordsIn (w : World) : Prop := 0 < w.heap.size ∧ w.cell? ⟨0, 0, none⟩ = some (.string ⟨#[97, 110, 100]⟩) ∧ w.cell? ⟨0, 1, none⟩ = some (.string ⟨#[111, 114]⟩) ∧ w.cell? ⟨0, 2, none⟩ = some (.string ⟨#[105, 102]⟩) ∧ w.cell? ⟨0, 3, none⟩ = some (.string ⟨#[101, 108, 115, 101]⟩) ∧
  w.cell? ⟨0, 4, none⟩ = some (.string ⟨#[117, 110, 108, 101, 115, 115]⟩) ∧ w.cell? ⟨0, 5, none⟩ = some (.string ⟨#[119, 105, 116, 104]⟩) ∧ w.cell? ⟨0, 6, none⟩ = some (.string ⟨#[119, 105, 116, 104, 111, 117, 116]⟩)
theorem WordsIn.below {w w' : World} (h : WordsIn w) (hb : Below w.heap.size w w') : WordsIn w' := by
  obtain ⟨h0, h1, h2, h3, h4, h5, h6, h7⟩ := h
  have hs := hb.size
  exact ⟨by omega, (hb.cell (p := ⟨_, 0, none⟩) h0).trans h1, (hb.cell (p := ⟨_, 1, none⟩) h0).trans h2, (hb.cell (p := ⟨_, 2, none⟩) h0).trans h3, (hb.cell (p := ⟨_, 3, none⟩) h0).trans h4, (hb.cell (p := ⟨_, 4, none⟩) h0).trans h5, (hb.cell (p := ⟨_, 5, none⟩) h0).trans h6, (hb.cell (p := ⟨_, 6, none⟩) h0).trans h7⟩
/-- what pkg's statements list -/
def PkIn (w : World) : Prop := OpsIn w ∧ WordsIn w
theorem PkIn.below {w w' : World} (h : PkIn w) (hb : Below w.heap.size w w') : PkIn w' := ⟨h.1.below hb, h.2.below hb⟩
/- a byte of a name -/
def signsL : Bytes := [97, 98, 99, 100, 101, 102, 103, 104, 105, 106, 107, 108, 109, 110, 111, 112, 113, 114, 115, 116, 117, 118, 119, 120, 121, 122, 65, 66, 67, 68, 69, 70, 71, 72, 73, 74, 75, 76, 77, 78, 79, 80, 81, 82, 83, 84, 85, 86, 87, 88, 89, 90, 48, 49, 50, 51, 52, 53, 54, 55, 56, 57, 46, 95, 43, 45, 47, 58, 64, 126, 94]
theorem signs_key : ∀ k : Fin 256, (sgnI (k.val : Int) = true ∧ 0 ≤ Lib.indexByte signsL k.val.toUInt8) ∨ (sgnI (k.val : Int) = false ∧ Lib.indexByte signsL k.val.toUInt8 = -1) := by decide +kernel
theorem sgnI_le {n : Int} (h : sgnI n = true) : 0 ≤ n ∧ n ≤ 126 := by
  unfold sgnI at h
  have := of_decide_eq_true h
  omega
theorem sgn_at {n : Nat} (h : n < 256) (hs : sgnI (n : Int) = true) : ∃ i : Nat, Lib.indexByte signsL n.toUInt8 = (i : Int) := by
  rcases signs_key ⟨n, h⟩ with ⟨_, h2⟩ | ⟨h1, _⟩
  · exact Int.eq_ofNat_of_zero_le h2
  · dsimp only at h1; rw [hs] at h1; cases h1
theorem sgn_none {n : Nat} (h : n < 256) (hs : sgnI (n : Int) = false) : Lib.indexByte signsL n.toUInt8 = -1 := by
  rcases signs_key ⟨n, h⟩ with ⟨h1, _⟩ | ⟨_, h2⟩
  · dsimp only at h1; rw [hs] at h1; cases h1
  · exact h2
theorem signs70_any (n : Nat) (i : Int) (w : World) (h : Lib.indexByte signsL n.toUInt8 = i) : Calls Tryd.prog 27 #[.string ⟨#[97, 98, 99, 100, 101, 102, 103, 104, 105, 106, 107, 108, 109, 110, 111, 112, 113, 114, 115, 116, 117, 118, 119, 120, 121, 122, 65, 66, 67, 68, 69, 70, 71, 72, 73, 74, 75, 76, 77, 78, 79, 80, 81, 82, 83, 84, 85, 86, 87, 88, 89, 90, 48, 49, 50, 51, 52, 53, 54, 55, 56, 57, 46, 95, 43, 45, 47, 58, 64, 126, 94]⟩, .int .u8 (n : Int)] w fun e w' => e = .returned (.int .i64 i) ∧ w = w' := by
  refine (Tryd.strings_IndexByte _ (n : Int) w).mono ?_
  rintro e w' ⟨rfl, rfl⟩
  subst h
  exact ⟨rfl, rfl⟩
theorem name_bad {s : ByteArray} {k : Nat} (hk : k < s.size) (hc : sgn s[k] = false) : nameB s.toList = false := by
  cases h : nameB s.toList with
  | false => rfl
  | true =>
    have hm : s[k] ∈ s.toList := by rw [← toList_get s k hk]; exact List.getElem_mem _
    have := (name_iff.1 h).2.2.1 _ hm
    rw [hc] at this; cases this
theorem name_none {s : ByteArray} (h : s.size = 0) : nameB s.toList = false := by
  cases hw : nameB s.toList with
  | false => rfl
  | true => have := (name_iff.1 hw).1; rw [size_toList] at this; omega
theorem name_long {s : ByteArray} (h : 64 < s.size) : nameB s.toList = false := by
  cases hw : nameB s.toList with
  | false => rfl
  | true => have := (name_iff.1 hw).2.1; rw [size_toList] at this; omega
theorem name_word {l : Bytes} (h : l ∈ noNames) : nameB l = false := by
  cases hw : nameB l with
  | false => rfl
  | true => exact absurd h (name_iff.1 hw).2.2.2
theorem name_good {s : ByteArray} (h1 : 1 ≤ s.size) (h2 : s.size ≤ 64) (h : ∀ c ∈ s.toList, sgn c = true) (h3 : s.toList ∉ noNames) : nameB s.toList = true := name_iff.2 ⟨by rw [size_toList]; exact h1, by rw [size_toList]; exact h2, h, h3⟩
theorem sgn_take {s : ByteArray} {k : Nat} (hk : k < s.size) (h : ∀ c ∈ s.toList.take k, sgn c = true) (hc : sgn s[k] = true) : ∀ c ∈ s.toList.take (k + 1), sgn c = true := by
  rw [toList_take_succ s k hk]
  intro c hm
  rcases List.mem_append.1 hm with hm | hm
  · exact h c hm
  · rw [List.mem_singleton] at hm; subst hm; exact hc
theorem sgn_all {s : ByteArray} {k : Nat} (hk : ¬ k < s.size) (h : ∀ c ∈ s.toList.take k, sgn c = true) : ∀ c ∈ s.toList, sgn c = true := by
  rwa [List.take_of_length_le (by rw [size_toList]; omega)] at h
theorem head_prefix (l : Bytes) : Lib.hasPrefix l [47] = (l.head? == some 47) := by
  unfold Lib.hasPrefix
  cases l with
  | nil => rfl
  | cons c l =>
    simp [List.isPrefixOf]
    rw [Bool.eq_iff_iff, beq_iff_eq, beq_iff_eq]
    exact eq_comm
theorem not_words {l : Bytes} (q0 : (l == [97, 110, 100]) = false) (q1 : (l == [111, 114]) = false) (q2 : (l == [105, 102]) = false) (q3 : (l == [101, 108, 115, 101]) = false) (q4 : (l == [117, 110, 108, 101, 115, 115]) = false) (q5 : (l == [119, 105, 116, 104]) = false) (q6 : (l == [119, 105, 116, 104, 111, 117, 116]) = false) : l ∉ noNames := by
  unfold noNames
  simp only [List.mem_cons, List.not_mem_nil, or_false, not_or]
  exact ⟨beq_eq_false_iff_ne.1 q0, beq_eq_false_iff_ne.1 q1, beq_eq_false_iff_ne.1 q2, beq_eq_false_iff_ne.1 q3, beq_eq_false_iff_ne.1 q4, beq_eq_false_iff_ne.1 q5, beq_eq_false_iff_ne.1 q6⟩
theorem word_at0 (w : World) : (Instr.index 58 (.agg #[.string ⟨#[97, 110, 100]⟩, .string ⟨#[111, 114]⟩, .string ⟨#[105, 102]⟩, .string ⟨#[101, 108, 115, 101]⟩, .string ⟨#[117, 110, 108, 101, 115, 115]⟩, .string ⟨#[119, 105, 116, 104]⟩, .string ⟨#[119, 105, 116, 104, 111, 117, 116]⟩]) (.int .i64 0)).run Tryd.prog w = .ok (.string ⟨#[97, 110, 100]⟩) w := by kernel_rfl
theorem word_at1 (w : World) : (Instr.index 58 (.agg #[.string ⟨#[97, 110, 100]⟩, .string ⟨#[111, 114]⟩, .string ⟨#[105, 102]⟩, .string ⟨#[101, 108, 115, 101]⟩, .string ⟨#[117, 110, 108, 101, 115, 115]⟩, .string ⟨#[119, 105, 116, 104]⟩, .string ⟨#[119, 105, 116, 104, 111, 117, 116]⟩]) (.int .i64 1)).run Tryd.prog w = .ok (.string ⟨#[111, 114]⟩) w := by kernel_rfl
theorem word_at2 (w : World) : (Instr.index 58 (.agg #[.string ⟨#[97, 110, 100]⟩, .string ⟨#[111, 114]⟩, .string ⟨#[105, 102]⟩, .string ⟨#[101, 108, 115, 101]⟩, .string ⟨#[117, 110, 108, 101, 115, 115]⟩, .string ⟨#[119, 105, 116, 104]⟩, .string ⟨#[119, 105, 116, 104, 111, 117, 116]⟩]) (.int .i64 2)).run Tryd.prog w = .ok (.string ⟨#[105, 102]⟩) w := by kernel_rfl
theorem word_at3 (w : World) : (Instr.index 58 (.agg #[.string ⟨#[97, 110, 100]⟩, .string ⟨#[111, 114]⟩, .string ⟨#[105, 102]⟩, .string ⟨#[101, 108, 115, 101]⟩, .string ⟨#[117, 110, 108, 101, 115, 115]⟩, .string ⟨#[119, 105, 116, 104]⟩, .string ⟨#[119, 105, 116, 104, 111, 117, 116]⟩]) (.int .i64 3)).run Tryd.prog w = .ok (.string ⟨#[101, 108, 115, 101]⟩) w := by kernel_rfl
theorem word_at4 (w : World) : (Instr.index 58 (.agg #[.string ⟨#[97, 110, 100]⟩, .string ⟨#[111, 114]⟩, .string ⟨#[105, 102]⟩, .string ⟨#[101, 108, 115, 101]⟩, .string ⟨#[117, 110, 108, 101, 115, 115]⟩, .string ⟨#[119, 105, 116, 104]⟩, .string ⟨#[119, 105, 116, 104, 111, 117, 116]⟩]) (.int .i64 4)).run Tryd.prog w = .ok (.string ⟨#[117, 110, 108, 101, 115, 115]⟩) w := by kernel_rfl
theorem word_at5 (w : World) : (Instr.index 58 (.agg #[.string ⟨#[97, 110, 100]⟩, .string ⟨#[111, 114]⟩, .string ⟨#[105, 102]⟩, .string ⟨#[101, 108, 115, 101]⟩, .string ⟨#[117, 110, 108, 101, 115, 115]⟩, .string ⟨#[119, 105, 116, 104]⟩, .string ⟨#[119, 105, 116, 104, 111, 117, 116]⟩]) (.int .i64 5)).run Tryd.prog w = .ok (.string ⟨#[119, 105, 116, 104]⟩) w := by kernel_rfl
theorem word_at6 (w : World) : (Instr.index 58 (.agg #[.string ⟨#[97, 110, 100]⟩, .string ⟨#[111, 114]⟩, .string ⟨#[105, 102]⟩, .string ⟨#[101, 108, 115, 101]⟩, .string ⟨#[117, 110, 108, 101, 115, 115]⟩, .string ⟨#[119, 105, 116, 104]⟩, .string ⟨#[119, 105, 116, 104, 111, 117, 116]⟩]) (.int .i64 6)).run Tryd.prog w = .ok (.string ⟨#[119, 105, 116, 104, 111, 117, 116]⟩) w := by kernel_rfl
set_option maxRecDepth 100000 in
set_option maxHeartbeats 8000000 in
theorem dname_pk (s : ByteArray) (w : World) (hs : s.size ≤ maxLen) (hI : PkIn w) : Calls Tryd.prog 10 #[.string s] w fun e w' => e = .returned (.bool (nameB s.toList)) ∧ Below w.heap.size w w' := by
  unfold maxLen at hs
  by_cases h0 : s.size = 0
  · have HW := Lib.hid (name_none h0)
    have e0 : s.toList = [] := List.eq_nil_of_length_eq_zero (by rw [size_toList]; exact h0)
    rw [HW.out]
    clear HW hI
    obtain rfl : s = ⟨#[]⟩ := toList_inj (e0.trans (bs_toList []).symm)
    clear e0 h0
    go_enter Tryd.func10, Tryd.ntmps10
    go_wp2
    go_ret
    exact ⟨rfl, Below.refl _ _⟩
  by_cases h64 : 64 < s.size
  · have HW := Lib.hid (name_long h64)
    rw [HW.out]
    clear HW hI
    have h65 : (64 : Int) < (s.size : Int) := by omega
    have h1 : ¬ (s.size : Int) < 1 := by omega
    go_enter Tryd.func10, Tryd.ntmps10
    go_wp2
    go_ret
    exact ⟨rfl, Below.refl _ _⟩
  have h65 : ¬ (64 : Int) < (s.size : Int) := by omega
  have h1 : ¬ (s.size : Int) < 1 := by omega
  obtain ⟨r, hr⟩ : ∃ r, r = nameB s.toList := ⟨_, rfl⟩
  rw [← hr]
  have HR := Lib.hid hr
  have WI := Lib.hid hI.2
  clear hr hI
  go_enter Tryd.func10, Tryd.ntmps10
  go_wp2
  go_loopw [] (fun wr => ∃ k : Nat, k ≤ s.size ∧ wr = w.iter s k ∧ Hid (∀ c ∈ s.toList.take k, sgn c = true)) (fun wr => s.size - wr.iterPos w.heap.size)
  case atStart => exact ⟨0, by omega, rfl, Lib.hid (by intro c hc; cases hc)⟩
  case round =>
    obtain ⟨k, hk, rfl, hS⟩ := hrel
    by_cases hlt : k < s.size
    · have hb := UInt8.toNat_lt s[k]
      by_cases ha : (s[k]).toNat < 128
      · have hnx := fun ty => run_next_ascii (P := Tryd.prog) w s k ty hlt ha
        cases hc : sgnI ((s[k]).toNat : Int) with
        | true =>
          have HT := Lib.hid (sgn_take hlt hS.out hc)
          obtain ⟨_, h126⟩ := sgnI_le hc
          obtain ⟨i, hi⟩ := sgn_at (by omega) hc
          have IB := Lib.hid (fun W => signs70_any (s[k]).toNat i W hi)
          generalize (s[k]).toNat = c at *
          have g1 : ¬ (126 : Int) < (c : Int) := by omega
          have g2 : ¬ (i : Int) < 0 := by omega
          clear hS hi hc
          go_wp2_with (go_at_call 27; refine (IB.out _).mono ?_; rintro e w' ⟨rfl, rfl⟩)
          go_roundw
          case rel => exact ⟨k + 1, by omega, rfl, HT⟩
          case measure => simp; omega
        | false =>
          obtain rfl : r = false := HR.out.trans (name_bad hlt hc)
          have IB := Lib.hid (fun W => signs70_any (s[k]).toNat (-1) W (sgn_none (by omega) hc))
          generalize (s[k]).toNat = c at *
          clear hS hc HR
          by_cases g1 : (126 : Int) < (c : Int)
          · go_wp2_with fail
            go_ret
            exact ⟨rfl, (Below.refl _ _).alloc (Nat.le_refl _) _⟩
          · go_wp2_with (go_at_call 27; refine (IB.out _).mono ?_; rintro e w' ⟨rfl, rfl⟩)
            go_ret
            exact ⟨rfl, (Below.refl _ _).alloc (Nat.le_refl _) _⟩
      · have hnx := fun ty => run_next_any (P := Tryd.prog) w s k ty hlt
        obtain ⟨d1, d2⟩ := decode_high s k hlt (by omega)
        have hc : sgn s[k] = false := by
          cases hc : sgn s[k] with
          | false => rfl
          | true => have := sgnI_le hc; omega
        obtain rfl : r = false := HR.out.trans (name_bad hlt hc)
        generalize (Utf8.decode s k).1 = c at *
        generalize (Utf8.decode s k).2 = d at *
        have g1 : (126 : Int) < (c : Int) := by omega
        clear hS hc HR
        go_wp2_with fail
        go_ret
        exact ⟨rfl, (Below.refl _ _).alloc (Nat.le_refl _) _⟩
    · have HA := Lib.hid (sgn_all hlt hS.out)
      have hnx := fun ty => run_next_end (P := Tryd.prog) w s k ty hlt
      have WJ := Lib.hid (WI.out.below (w' := w.iter s k) ((Below.refl _ _).alloc (Nat.le_refl _) _))
      clear hS
      obtain ⟨W, hW⟩ : ∃ W, W = w.iter s k := ⟨_, rfl⟩
      have hBW : Below w.heap.size w W := by rw [hW]; exact (Below.refl _ _).alloc (Nat.le_refl _) _
      rw [← hW] at hnx WJ ⊢
      obtain ⟨v0, v1, v2, v3, v4, v5, v6, v7⟩ := WJ.out
      clear hW WJ WI
      have i0 := word_at0
      have i1 := word_at1
      have i2 := word_at2
      have i3 := word_at3
      have i4 := word_at4
      have i5 := word_at5
      have i6 := word_at6
      go_wp2_with fail
      refine wp_loop_rounds 8 ?_
      rw [rounds_succ]
      rcases Bool.eq_false_or_eq_true (s.toList == [97, 110, 100]) with q0 | q0
      · obtain rfl : r = false := HR.out.trans (name_word (by rw [beq_iff_eq.1 q0]; decide))
        clear HR HA
        go_wp2_with fail
        go_ret
        exact ⟨rfl, hBW⟩
      go_wp2_with fail
      rw [rounds_succ]
      rcases Bool.eq_false_or_eq_true (s.toList == [111, 114]) with q1 | q1
      · obtain rfl : r = false := HR.out.trans (name_word (by rw [beq_iff_eq.1 q1]; decide))
        clear HR HA
        go_wp2_with fail
        go_ret
        exact ⟨rfl, hBW⟩
      go_wp2_with fail
      rw [rounds_succ]
      rcases Bool.eq_false_or_eq_true (s.toList == [105, 102]) with q2 | q2
      · obtain rfl : r = false := HR.out.trans (name_word (by rw [beq_iff_eq.1 q2]; decide))
        clear HR HA
        go_wp2_with fail
        go_ret
        exact ⟨rfl, hBW⟩
      go_wp2_with fail
      rw [rounds_succ]
      rcases Bool.eq_false_or_eq_true (s.toList == [101, 108, 115, 101]) with q3 | q3
      · obtain rfl : r = false := HR.out.trans (name_word (by rw [beq_iff_eq.1 q3]; decide))
        clear HR HA
        go_wp2_with fail
        go_ret
        exact ⟨rfl, hBW⟩
      go_wp2_with fail
      rw [rounds_succ]
      rcases Bool.eq_false_or_eq_true (s.toList == [117, 110, 108, 101, 115, 115]) with q4 | q4
      · obtain rfl : r = false := HR.out.trans (name_word (by rw [beq_iff_eq.1 q4]; decide))
        clear HR HA
        go_wp2_with fail
        go_ret
        exact ⟨rfl, hBW⟩
      go_wp2_with fail
      rw [rounds_succ]
      rcases Bool.eq_false_or_eq_true (s.toList == [119, 105, 116, 104]) with q5 | q5
      · obtain rfl : r = false := HR.out.trans (name_word (by rw [beq_iff_eq.1 q5]; decide))
        clear HR HA
        go_wp2_with fail
        go_ret
        exact ⟨rfl, hBW⟩
      go_wp2_with fail
      rw [rounds_succ]
      rcases Bool.eq_false_or_eq_true (s.toList == [119, 105, 116, 104, 111, 117, 116]) with q6 | q6
      · obtain rfl : r = false := HR.out.trans (name_word (by rw [beq_iff_eq.1 q6]; decide))
        clear HR HA
        go_wp2_with fail
        go_ret
        exact ⟨rfl, hBW⟩
      go_wp2_with fail
      rw [rounds_succ]
      obtain rfl : r = true := HR.out.trans (name_good (by omega) (by omega) HA.out (not_words q0 q1 q2 q3 q4 q5 q6))
      clear HR HA
      go_wp2_with fail
      go_ret
      exact ⟨rfl, hBW⟩
set_option maxRecDepth 100000 in
set_option maxHeartbeats 8000000 in
theorem dfile_pk (s : ByteArray) (w : World) (hs : s.size ≤ maxLen) (hI : PkIn w) : Calls Tryd.prog 11 #[.string s] w fun e w' => e = .returned (.bool (fileB s.toList)) ∧ Below w.heap.size w w' := by
  have NA := Lib.hid (dname_pk s w hs hI)
  have HP := Lib.hid (fun W => Tryd.strings_HasPrefix s ⟨#[47]⟩ W)
  obtain ⟨r, hr⟩ : ∃ r, r = fileB s.toList := ⟨_, rfl⟩
  rw [← hr]
  unfold fileB at hr
  clear hI hs
  cases hn : nameB s.toList with
  | false =>
    rw [hn] at NA hr
    obtain rfl : r = false := hr
    clear HP hn
    go_enter Tryd.func11, Tryd.ntmps11
    go_wp2_with (go_at_call 10; refine NA.out.mono ?_; rintro e w1 ⟨rfl, h⟩)
    go_ret
    exact ⟨rfl, h⟩
  | true =>
    rw [hn] at NA hr
    have HR := Lib.hid (show Lib.hasPrefix s.data.toList [47] = r from by rw [hr, Bool.true_and, head_prefix]; exact congrArg (fun l : Bytes => l.head? == some 47) (Lib.toList_data s).symm)
    clear hn hr
    go_enter Tryd.func11, Tryd.ntmps11
    go_wp2_with fail
    go_at_call 10
    refine NA.out.mono ?_
    rintro e w1 ⟨rfl, h⟩
    go_wp2_with fail
    go_at_call 28
    refine (HP.out _).mono ?_
    rintro e w2 ⟨rfl, rfl⟩
    go_wp2_with fail
    go_ret
    exact ⟨ret_bool HR.out, h⟩
end Go.Proofs.YtcpjignlhlcnpaaDoor
