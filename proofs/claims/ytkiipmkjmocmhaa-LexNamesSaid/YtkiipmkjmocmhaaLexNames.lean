/- The walk of LexNames: the examples; bounds; each byte. -/
import Derived.Test.YtkiipmkjmocmhaaLexSpaces
namespace Go.Proofs.Ytkiipmkjmocmhaa
open Go.RowKit Go.Shelf

theorem nm1 : wordsS (ByteArray.mk #[]).toList = ([], 0, 0) := by rw [Lib.toList_data]; decide +kernel
theorem nm2 : wordsS (ByteArray.mk #[32, 32, 32]).toList = ([], 0, 0) := by rw [Lib.toList_data]; decide +kernel
def nmWords : List Tok := [(0, [41]), (1, [41]), (2, [40]), (3, [40])]
theorem nm3 : wordsS (ByteArray.mk #[41, 41, 40, 40]).toList = (nmWords, 0, 0) := by rw [Lib.toList_data]; decide +kernel
def nmJoin : List ByteArray := [bs [40], bs [40], bs [41], bs [41], bs [97], bs [40], bs [98]]
theorem nm4 : bs (joinS none (texts nmJoin)) = ByteArray.mk #[40, 40, 41, 41, 32, 97, 32, 40, 98] := by
  apply toList_inj
  rw [bs_toList]
  simp only [texts, nmJoin, List.map_cons, List.map_nil, bs_toList]
  exact (bs_toList [40, 40, 41, 41, 32, 97, 32, 40, 98]).symm
theorem nm4w : weigh (texts nmJoin) ≤ 140737488355328 := by
  simp only [texts, nmJoin, List.map_cons, List.map_nil, bs_toList]
  decide
theorem are_nil (W : World) (s : ByteArray) (hs : s.size ≤ maxLen) (hw : wordsS s.toList = ([], 0, 0)) :
    Calls Try.prog 10 #[.string s, .slice none 0 0, .slice none 0 0] W fun e w' => e = .returned (.bool true) ∧ Below W.heap.size W w' :=
  are_ok s hs [] hw none none 0 0 W (Rd.nil_ (Nat.zero_le _)) (Rd.nil_ (Nat.zero_le _))
theorem join_nil (W : World) : Calls Try.prog 11 #[.slice none 0 0] W fun e w' => e = .returned (.string (ByteArray.mk #[])) ∧ Below W.heap.size W w' :=
  join_any [] none 0 W (Rd.nil_ (Nat.zero_le _)) (by decide)
def around (c : UInt8) : ByteArray := ByteArray.mk #[120] ++ bs [c] ++ ByteArray.mk #[121]
theorem around_toList (c : UInt8) : (around c).toList = [120, c, 121] := by
  unfold around
  rw [toList_append, toList_append, bs_toList, show (ByteArray.mk #[120]).toList = [120] from bs_toList [120], show (ByteArray.mk #[121]).toList = [121] from bs_toList [121]]; rfl
theorem around_words (c : UInt8) : (wrong c = true ∧ wordsS (around c).toList = ([], 1, 4)) ∨ (spc c = true ∧ wordsS (around c).toList = ([(0, [120]), (2, [121])], 0, 0)) ∨
    (brk c = true ∧ wordsS (around c).toList = ([(0, [120]), (1, [c]), (2, [121])], 0, 0)) ∨ (inn c = true ∧ wordsS (around c).toList = ([(0, [120, c, 121])], 0, 0)) := by
  rw [around_toList]
  have hx : inn 120 = true := by decide
  have hy : inn 121 = true := by decide
  have wx : wrong 120 = false := by decide
  have wy : wrong 121 = false := by decide
  rcases wrong_cases c with g | g | g | g
  · refine .inl ⟨g, ?_⟩
    unfold wordsS badAt
    simp [List.findIdx?_cons, wx, g]
  · refine .inr (.inl ⟨g, ?_⟩)
    have hc : c = 32 := by simpa [spc] using g
    subst hc
    decide +kernel
  · refine .inr (.inr (.inl ⟨g, ?_⟩))
    have hw := wrong_of_brk g
    have hi : inn c = false := by cases hc : inn c with | false => rfl | true => rw [brk_inn hc] at g; cases g
    unfold wordsS badAt
    simp [List.findIdx?_cons, wx, wy, hw, toks, hx, hy, hi, spc_brk g, g, flushT]
  · refine .inr (.inr (.inr ⟨g, ?_⟩))
    have hw := wrong_of_inn g
    unfold wordsS badAt
    simp [List.findIdx?_cons, wx, wy, hw, toks, hx, hy, g, flushT]
theorem many_words (k : Nat) (h0 : 0 < k) (hk : k ≤ 4096) : wordsS (bs (List.replicate k 97)).toList = ([(0, List.replicate k 97)], 0, 0) := by
  rw [bs_toList]
  have hp : plainB (List.replicate k 97) = true := by
    obtain ⟨k, rfl⟩ : ∃ j, k = j + 1 := ⟨k - 1, by omega⟩
    rw [List.replicate_succ]
    refine plainB_inn (by decide) fun d hd => ?_
    rw [(List.mem_replicate.1 hd).2]; decide
  unfold wordsS
  rw [if_neg (by simp; omega), badAt_none (plainB_wrong hp)]
  have := toks_word (p := 0) (rest := []) hp (.inr (by simp))
  rw [List.append_nil] at this
  rw [this]
  simp [toks, flushT]
/-- The byte b, by what it is. -/
theorem byte_of (b : Nat) (hb : b < 256) : (UInt8.ofNat b).toNat = b := by rw [UInt8.toNat_ofNat']; omega

theorem byte_kind {c : UInt8} {k : Nat} (h : (c.toNat : Int) = (k : Int)) : (wrong c = true → k < 32 ∨ 126 < k) ∧ (spc c = true → k = 32) ∧ (brk c = true → k = 40 ∨ k = 41) ∧ (inn c = true → 33 ≤ k ∧ k ≤ 126 ∧ k ≠ 40 ∧ k ≠ 41) := by
  have h32 := beq_toNat c 32 (by omega)
  unfold wrong spc brk inn innB brB
  rw [show (c == 32) = ((c.toNat : Int) == 32) from h32.symm, h]
  clear h h32
  simp only [Bool.not_eq_true', Bool.or_eq_false_iff, Bool.or_eq_true, Bool.and_eq_true, beq_iff_eq, decide_eq_true_eq, Bool.and_eq_false_iff, decide_eq_false_iff_not, Bool.not_eq_false', beq_eq_false_iff_ne]
  omega
theorem many_4097 (w : World) : Calls Try.prog 13 #[.int .i64 4097, .string (ByteArray.mk #[97])] w fun e w' => e = .returned (.string (bs (List.replicate 4097 97))) ∧ w = w' := many_one 4097 (by omega) 97 w
theorem many_4096 (w : World) : Calls Try.prog 13 #[.int .i64 4096, .string (ByteArray.mk #[97])] w fun e w' => e = .returned (.string (bs (List.replicate 4096 97))) ∧ w = w' := many_one 4096 (by omega) 97 w
set_option maxHeartbeats 2000000 in
set_option maxRecDepth 100000 in
theorem names_walk (w : World) : Calls Try.prog 3 #[] w fun e w' => e = .returned (.bool true) ∧ Below w.heap.size w w' := by
  go_enter Try.func3, Try.ntmps3
  go_wp2_with fail
  refine (works_ok _).mono ?_
  rintro e w1 ⟨rfl, hb1⟩
  go_wp2_with fail
  refine (are_nil _ _ (by decide) nm1).mono ?_
  rintro e w2 ⟨rfl, hb2⟩
  have hc2 := hb1.trans (hb2.mono hb1.size)
  clear hb1 hb2
  go_wp2_with fail
  refine (are_nil _ _ (by decide) nm2).mono ?_
  rintro e w3 ⟨rfl, hb3⟩
  have hc3 := hc2.trans (hb3.mono hc2.size)
  clear hc2 hb3
  go_wp2_with fail
  refine (are_new w3 _ (by decide) nmWords nm3 4 rfl (by decide) _ _ rfl rfl).mono ?_
  rintro e w4 ⟨rfl, hb4⟩
  have hc4 := hc3.trans (hb4.mono hc3.size)
  clear hc3 hb4
  go_wp2_with fail
  refine (join_nil _).mono ?_
  rintro e w5 ⟨rfl, hb5⟩
  have hc5 := hc4.trans (hb5.mono hc4.size)
  clear hc4 hb5
  go_wp2_with fail
  refine (join_new w5 nmJoin _ nm4 nm4w 7 rfl (by decide) _ rfl).mono ?_
  rintro e w6 ⟨rfl, hb6⟩
  have hc6 := hc5.trans (hb6.mono hc5.size)
  clear hc5 hb6
  go_wp2
  go_loopw [1] (fun b wr => ∃ k : Nat, k ≤ 256 ∧ b = .int .i64 k ∧ Below w.heap.size w wr) (fun b _ => 256 - (intOf b).toNat)
  case atStart => exact ⟨0, by omega, rfl, hc6⟩
  case round =>
    obtain ⟨k, hk, rfl, hB⟩ := hrel
    have hBs := hB.size
    by_cases hlt : k < 256
    · obtain ⟨c, hc⟩ : ∃ c, UInt8.ofNat k = c := ⟨_, rfl⟩
      have hck : (c.toNat : Int) = (k : Int) := by rw [← hc, byte_of k hlt]
      have hcv := fun W => conv1 W c
      rw [hck] at hcv
      have hcd := fun W => conv1d W c
      rw [hck] at hcd
      have hsz : (around c).size = 3 := by rw [← size_toList, around_toList]; rfl
      have hs1 : (ByteArray.mk #[120]).size + (bs [c]).size ≤ 9223372036854775807 := by show 1 + 1 ≤ _; omega
      have hs2 : (ByteArray.mk #[120] ++ bs [c]).size + (ByteArray.mk #[121]).size ≤ 9223372036854775807 := by
        have h3 : (ByteArray.mk #[120] ++ bs [c]).size = 2 := by rw [← size_toList, toList_append, bs_toList, show (ByteArray.mk #[120]).toList = [120] from bs_toList [120]]; rfl
        rw [h3]; show 2 + 1 ≤ _; omega
      have hwrp : IntKind.u8.wrap (k : Int) = (k : Int) := by simp [IntKind.wrap, IntKind.bits, IntKind.signed]; omega
      have HA := Lib.hid (fun W => words_is (around c) W (by rw [hsz]; decide))
      unfold around at HA
      have HK := Lib.hid (byte_kind hck)
      rcases around_words c with ⟨g, h1⟩ | ⟨g, h1⟩ | ⟨g, h1⟩ | ⟨g, h1⟩
      · have hkk := HK.out.1 g
        have H1 := Lib.hid (fun W => HA.out W _ _ _ h1)
        clear h1 g HA HK hc hck hcd
        rcases hkk with hk1 | hk1
        · go_wp2_with fail
          refine (H1.out _).mono ?_
          rintro e w7 ⟨C, cc, rfl, hC, hb7⟩
          have hB7 := (hB.alloc hBs _).trans (hb7.mono (by simp; omega))
          clear hC
          go_wp2
          go_roundw
          case rel => exact ⟨k + 1, by omega, by go_num, hB7⟩
          case measure => simp [intOf]; omega
        · have hk2 : (k : Int) < 32 → False := by omega
          have hk3 : ¬ (k : Int) < 32 := by omega
          clear hk2
          go_wp2_with fail
          refine (H1.out _).mono ?_
          rintro e w7 ⟨C, cc, rfl, hC, hb7⟩
          have hB7 := (hB.alloc hBs _).trans (hb7.mono (by simp; omega))
          clear hC
          go_wp2
          go_roundw
          case rel => exact ⟨k + 1, by omega, by go_num, hB7⟩
          case measure => simp [intOf]; omega
      · have hkk := HK.out.2.1 g
        have H1 := Lib.hid (fun W => HA.out W _ _ _ h1)
        clear h1 g HA HK hc hck hcd
        have hk1 : 32 ≤ k := by omega
        have hk2 : k ≤ 126 := by omega
        have hk3 : ((k : Int) == 32) = true := by simp; omega
        clear hkk
        go_wp2_with fail
        refine (H1.out _).mono ?_
        rintro e w7 ⟨C, cc, rfl, hC, hb7⟩
        have hB7 := (hB.alloc hBs _).trans (hb7.mono (by simp; omega))
        obtain ⟨a3, o3, rfl, hl3, c3, c4⟩ := hC.at2 (f := fun x => .string (bs x.2)) (g := fun x => .int .i64 (x.1 : Int)) (fun _ => rfl) (show 1 < 2 by omega)
        clear hC
        go_wp2
        go_roundw
        case rel => exact ⟨k + 1, by omega, by go_num, hB7⟩
        case measure => simp [intOf]; omega
      · have hkk := HK.out.2.2.1 g
        have H1 := Lib.hid (fun W => HA.out W _ _ _ h1)
        clear h1 g HA HK hc hck
        rcases hkk with hkk | hkk
        · have hk1 : 32 ≤ k := by omega
          have hk2 : k ≤ 126 := by omega
          have hk3 : ((k : Int) == 32) = false := by simp; omega
          have hk4 : ((k : Int) == 40) = true := by simp; omega
          clear hkk
          go_wp2_with fail
          refine (H1.out _).mono ?_
          rintro e w7 ⟨C, cc, rfl, hC, hb7⟩
          have hB7 := (hB.alloc hBs _).trans (hb7.mono (by simp; omega))
          obtain ⟨a3, o3, rfl, hl3, c3, c4⟩ := hC.at2 (f := fun x => .string (bs x.2)) (g := fun x => .int .i64 (x.1 : Int)) (fun _ => rfl) (show 1 < 3 by omega)
          have c3' : w7.cell? ⟨a3, o3 + 2, none⟩ = some (.string (bs [c])) := c3
          have c5 : (w7.alloc (.cells #[.int .u8 (k : Int)] 5)).cell? ⟨a3, o3 + 2, none⟩ = some (.string (bs [c])) := (World.cell?_alloc_lt w7 _ _ hl3).trans c3'
          clear hC c3 c4
          go_wp2
          go_region
          all_goals
            go_wp2
            go_roundw
            case rel => exact ⟨k + 1, by omega, by go_num, (hB7.alloc (by have := hB7.size; omega) _).drew⟩
            case measure => simp [intOf]; omega
        · have hk1 : 32 ≤ k := by omega
          have hk2 : k ≤ 126 := by omega
          have hk3 : ((k : Int) == 32) = false := by simp; omega
          have hk4 : ((k : Int) == 40) = false := by simp; omega
          have hk5 : ((k : Int) == 41) = true := by simp; omega
          clear hkk
          go_wp2_with fail
          refine (H1.out _).mono ?_
          rintro e w7 ⟨C, cc, rfl, hC, hb7⟩
          have hB7 := (hB.alloc hBs _).trans (hb7.mono (by simp; omega))
          obtain ⟨a3, o3, rfl, hl3, c3, c4⟩ := hC.at2 (f := fun x => .string (bs x.2)) (g := fun x => .int .i64 (x.1 : Int)) (fun _ => rfl) (show 1 < 3 by omega)
          have c3' : w7.cell? ⟨a3, o3 + 2, none⟩ = some (.string (bs [c])) := c3
          have c5 : (w7.alloc (.cells #[.int .u8 (k : Int)] 5)).cell? ⟨a3, o3 + 2, none⟩ = some (.string (bs [c])) := (World.cell?_alloc_lt w7 _ _ hl3).trans c3'
          clear hC c3 c4
          go_wp2
          go_region
          all_goals
            go_wp2
            go_roundw
            case rel => exact ⟨k + 1, by omega, by go_num, (hB7.alloc (by have := hB7.size; omega) _).drew⟩
            case measure => simp [intOf]; omega
      · have hkk := HK.out.2.2.2 g
        have H1 := Lib.hid (fun W => HA.out W _ _ _ h1)
        clear h1 g HA HK hc hck hcd
        have hk1 : 32 ≤ k := by omega
        have hk2 : k ≤ 126 := by omega
        have hk3 : ((k : Int) == 32) = false := by simp; omega
        have hk4 : ((k : Int) == 40) = false := by simp; omega
        have hk5 : ((k : Int) == 41) = false := by simp; omega
        have hz3 : (bs [120, c, 121]).size = 3 := rfl
        clear hkk
        go_wp2_with fail
        refine (H1.out _).mono ?_
        rintro e w7 ⟨C, cc, rfl, hC, hb7⟩
        have hB7 := (hB.alloc hBs _).trans (hb7.mono (by simp; omega))
        obtain ⟨a3, o3, rfl, hl3, c3, c4⟩ := hC.at2 (f := fun x => .string (bs x.2)) (g := fun x => .int .i64 (x.1 : Int)) (fun _ => rfl) (show 0 < 1 by omega)
        have c3' : w7.cell? ⟨a3, o3, none⟩ = some (.string (bs [120, c, 121])) := c3
        clear hC c3 c4
        go_wp2
        go_roundw
        case rel => exact ⟨k + 1, by omega, by go_num, hB7⟩
        case measure => simp [intOf]; omega
    · have M1 := Lib.hid (fun W => many_4097 W)
      have M2 := Lib.hid (fun W => many_4096 W)
      have W1 := Lib.hid (fun W => words_is (bs (List.replicate 4097 97)) W (by rw [← size_toList, bs_toList, List.length_replicate]; decide) [] 0 40 (by rw [bs_toList]; exact words_long_ _ (by rw [List.length_replicate]; omega)))
      have W2 := Lib.hid (fun W => words_is (bs (List.replicate 4096 97)) W (by rw [← size_toList, bs_toList, List.length_replicate]; decide) [(0, List.replicate 4096 97)] 0 0 (many_words 4096 (by omega) (Nat.le_refl _)))
      generalize bs (List.replicate 4097 97) = t1 at M1 W1
      generalize bs (List.replicate 4096 97) = t2 at M2 W2
      generalize List.replicate 4096 (97 : UInt8) = t3 at W2
      go_wp2_with fail
      refine (M1.out _).mono ?_
      rintro e w7 ⟨rfl, rfl⟩
      go_wp2_with fail
      refine (W1.out _).mono ?_
      rintro e w7 ⟨C1, k1, rfl, hC1, hb7⟩
      go_wp2_with fail
      refine (M2.out _).mono ?_
      rintro e w8 ⟨rfl, rfl⟩
      go_wp2_with fail
      refine (W2.out _).mono ?_
      rintro e w8 ⟨C2, k2, rfl, hC2, hb8⟩
      go_wp2
      go_ret
      exact ⟨rfl, hB.trans ((hb7.mono hBs).trans (hb8.mono (Nat.le_trans hBs hb7.size)))⟩
end Go.Proofs.Ytkiipmkjmocmhaa
