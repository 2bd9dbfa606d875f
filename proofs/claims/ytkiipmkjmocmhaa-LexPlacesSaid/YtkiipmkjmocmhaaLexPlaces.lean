/- The walk of LexPlaces: each word stands in the text at its place, spaces between. -/
import Derived.Test.YtkiipmkjmocmhaaLexBack
namespace Go.Proofs.Ytkiipmkjmocmhaa
open Go.RowKit Go.Shelf

/-- How far LexPlaces has come: i words are seen, the last one's end is e. -/
def Seen (s : ByteArray) (ys : List Tok) (i e : Nat) : Prop :=
  e ≤ s.size ∧ ∃ prev, Chain prev e (s.toList.drop e) (ys.drop i) ∧ ((i ≤ 0 ∧ prev = none) ∨ ∃ h : i - 1 < ys.length, 0 < i ∧ prev = some ys[i - 1].2)
theorem drop_rep {s : ByteArray} {e g : Nat} {r : Bytes} (h : s.toList.drop e = List.replicate g 32 ++ r) (k : Nat) (h1 : e ≤ k) (h2 : k < e + g) (h3 : k < s.size) : s[k] = 32 := by
  have h4 : (s.toList.drop e)[k - e]? = some s[k] := by
    rw [List.getElem?_drop, show e + (k - e) = k from by omega, List.getElem?_eq_getElem (by rw [size_toList]; exact h3), toList_get s k h3]
  rw [h, List.getElem?_append_left (by simp; omega), List.getElem?_replicate, if_pos (by omega)] at h4
  exact (Option.some.inj h4).symm
theorem Chain.inv {prev : Option Bytes} {p : Nat} {l : Bytes} {ys : List Tok} (h : Chain prev p l ys) :
    (ys = [] ∧ ∃ g, l = List.replicate g 32) ∨ ∃ g t rest r, ys = (p + g, t) :: r ∧ l = List.replicate g 32 ++ (t ++ rest) ∧ plainB t = true ∧
      (g = 0 → prev = none ∨ prev = some [40] ∨ prev = some [41] ∨ t = [40] ∨ t = [41]) ∧ Chain (some t) (p + g + t.length) rest r := by
  cases h with
  | @done _ _ g => exact .inl ⟨rfl, g, rfl⟩
  | @word _ _ g t rest r ht hg h => exact .inr ⟨g, t, rest, r, rfl, rfl, ht, hg, h⟩
theorem bs_size (t : Bytes) : (bs t).size = t.length := by rw [← size_toList, bs_toList]
theorem Seen.word {s : ByteArray} {ys : List Tok} {i e : Nat} (h : Seen s ys i e) (hi : i < ys.length) :
    e ≤ ys[i].1 ∧ ys[i].1 + (bs ys[i].2).size ≤ s.size ∧ (∀ (k : Nat) (_ : e ≤ k) (_ : k < ys[i].1) (h3 : k < s.size), s[k] = 32) ∧ s.extract ys[i].1 (ys[i].1 + (bs ys[i].2).size) = bs ys[i].2 ∧ plainB ys[i].2 = true ∧
      Seen s ys (i + 1) (ys[i].1 + (bs ys[i].2).size) ∧ (ys[i].1 ≤ e → i ≤ 0 ∨ ys[i].2 = [40] ∨ ys[i].2 = [41] ∨ (0 < i ∧ ∃ h : i - 1 < ys.length, ys[i - 1].2 = [40] ∨ ys[i - 1].2 = [41])) := by
  obtain ⟨he, prev, hc, hp⟩ := h
  have hd := List.drop_eq_getElem_cons hi
  rw [hd] at hc
  rcases hc.inv with ⟨h0, _⟩ | ⟨g, t, rest, r, h1, h2, h3, h4, h5⟩
  · cases h0
  · simp only [List.cons.injEq] at h1
    obtain ⟨hy, hr⟩ := h1
    subst hr
    have hlen := congrArg List.length h2
    simp only [List.length_drop, size_toList, List.length_append, List.length_replicate] at hlen
    rw [hy]
    dsimp only
    rw [bs_size]
    have hrest : s.toList.drop (e + g + t.length) = rest := by
      rw [show e + g + t.length = e + (g + t.length) from by omega, ← List.drop_drop, h2, ← List.drop_drop, List.drop_left' (by simp), List.drop_left]
    refine ⟨by omega, by omega, fun k a b c => drop_rep h2 k a b c, ?_, h3, ⟨by omega, some t, by rw [hrest]; exact h5, .inr ⟨by simpa using hi, by omega, by simp [hy]⟩⟩, fun hge => ?_⟩
    · apply toList_inj
      rw [toList_extract, bs_toList, show e + g + t.length - (e + g) = t.length from by omega, ← List.drop_drop, h2, List.drop_left' (by simp), List.take_left]
    · rcases h4 (by omega) with h | h | h | h | h
      · rcases hp with hp | ⟨hx, hp0, hp⟩
        · exact .inl hp.1
        · rw [hp] at h; cases h
      · rcases hp with hp | ⟨hx, hp0, hp⟩
        · rw [hp.2] at h; cases h
        · rw [hp] at h; exact .inr (.inr (.inr ⟨hp0, hx, .inl (Option.some.inj h)⟩))
      · rcases hp with hp | ⟨hx, hp0, hp⟩
        · rw [hp.2] at h; cases h
        · rw [hp] at h; exact .inr (.inr (.inr ⟨hp0, hx, .inr (Option.some.inj h)⟩))
      · exact .inr (.inl h)
      · exact .inr (.inr (.inl h))
theorem Seen.end_ {s : ByteArray} {ys : List Tok} {i e : Nat} (h : Seen s ys i e) (hi : ys.length ≤ i) : ∀ (k : Nat) (_ : e ≤ k) (h3 : k < s.size), s[k] = 32 := by
  obtain ⟨he, prev, hc, hp⟩ := h
  rw [List.drop_of_length_le hi] at hc
  rcases hc.inv with ⟨_, g, hg⟩ | ⟨g, t, rest, r, h1, _⟩
  · intro k h1 h3
    have hlen := congrArg List.length hg
    simp only [List.length_drop, size_toList, List.length_replicate] at hlen
    exact drop_rep (r := []) (by rw [hg, List.append_nil]) k h1 (by omega) h3
  · cases h1

/-- the four tests of two words that touch, as the walk meets them -/
def Touch (s t : ByteArray) : Prop :=
  (s.toList == [40]) = true ∨ ((s.toList == [40]) = false ∧ (s.toList == [41]) = true) ∨ ((s.toList == [40]) = false ∧ (s.toList == [41]) = false ∧ (t.toList == [40]) = true) ∨
    ((s.toList == [40]) = false ∧ (s.toList == [41]) = false ∧ (t.toList == [40]) = false ∧ (t.toList == [41]) = true)
theorem touch_of {s t : Bytes} (h : t = [40] ∨ t = [41] ∨ s = [40] ∨ s = [41]) : Touch (bs s) (bs t) := by
  unfold Touch
  simp only [bs_toList]
  by_cases h1 : s = [40] <;> by_cases h2 : s = [41] <;> by_cases h3 : t = [40] <;> by_cases h4 : t = [41] <;> simp_all
theorem words_err {s : ByteArray} {ys : List Tok} {p : Nat} {n : Int} (hw : wordsS s.toList = (ys, p, n)) : (n = 0 ∧ p = 0 ∧ Seen s ys 0 0) ∨ ((n == 0) = false ∧ ys = [] ∧ p ≤ s.size) := by
  unfold wordsS at hw
  split at hw
  · simp only [Prod.mk.injEq] at hw
    obtain ⟨rfl, rfl, rfl⟩ := hw
    exact .inr ⟨rfl, rfl, Nat.zero_le _⟩
  · split at hw
    · rename_i i hi
      simp only [Prod.mk.injEq] at hw
      obtain ⟨rfl, rfl, rfl⟩ := hw
      refine .inr ⟨rfl, rfl, ?_⟩
      have := (List.findIdx?_eq_some_iff_getElem.1 hi).1
      rw [size_toList] at this
      omega
    · rename_i hi
      simp only [Prod.mk.injEq] at hw
      obtain ⟨rfl, rfl, rfl⟩ := hw
      refine .inl ⟨rfl, rfl, Nat.zero_le _, none, ?_, .inl ⟨Nat.le_refl _, rfl⟩⟩
      simpa using toks_chain _ s.toList 0 none (Nat.le_refl _) (fun c hc => noWrong hi c hc) (.inl rfl)

set_option maxHeartbeats 2000000 in
set_option maxRecDepth 100000 in
theorem places_walk (w : World) (s : ByteArray) (hs : s.size ≤ maxLen) :
    Calls Try.prog 6 #[.string s] w fun e w' => e = .returned (.bool true) ∧ Below w.heap.size w w' := by
  by_cases h1 : 6000 < s.size
  · unfold maxLen at hs
    go_enter Try.func6, Try.ntmps6
    go_wp2_with fail
    refine (works_ok _).mono ?_
    rintro e w1 ⟨rfl, hb1⟩
    go_wp2_with fail
    refine (works_ok _).mono ?_
    rintro e w2 ⟨rfl, hb2⟩
    go_wp2
    go_ret
    exact ⟨rfl, hb1.trans (hb2.mono hb1.size)⟩
  · have hl : s.size ≤ 6000 := by omega
    obtain ⟨ys, p, n, hw⟩ : ∃ ys p n, wordsS s.toList = (ys, p, n) := ⟨_, _, _, rfl⟩
    have H1 := Lib.hid (fun W => words_is s W hs ys p n hw)
    have hcase := words_err hw
    clear hw h1 hs
    rcases hcase with ⟨rfl, rfl, hseen⟩ | ⟨hn, rfl, hp⟩
    · have HS := Lib.hid hseen
      clear hseen
      go_enter Try.func6, Try.ntmps6
      go_wp2_with (go_at_call 9; refine (works_ok _).mono ?_; rintro e w1 ⟨rfl, hb1⟩)
      refine (H1.out _).mono ?_
      rintro e w2 ⟨C, cc, rfl, hC, hb2⟩
      have hb := hb1.trans (hb2.mono hb1.size)
      have hCl := hC.len
      go_wp2
      go_loop [6, 7] (fun e i => ∃ (k m : Nat), k ≤ ys.length ∧ i = .int .i64 k ∧ e = .int .i64 m ∧ Seen s ys k m) (fun _ i => ys.length + 1 - (intOf i).toNat)
      case atStart => exact ⟨0, 0, Nat.zero_le _, rfl, rfl, HS.out⟩
      case round =>
        obtain ⟨k, m, hk, rfl, rfl, hseen⟩ := hrel
        have hms := hseen.1
        by_cases hlt : k < ys.length
        · obtain ⟨a3, o3, rfl, hl3, c3, c4⟩ := hC.at2 (f := fun x => .string (bs x.2)) (g := fun x => .int .i64 (x.1 : Int)) (fun _ => rfl) hlt
          obtain ⟨f1, f2, f3, f4, f5, f6, f7⟩ := hseen.word hlt
          have F3 := Lib.hid f3
          have F6 := Lib.hid f6
          have F7 := Lib.hid f7
          have hsl := slice_str _ _ _ _ f2 f4
          clear f3 f4 f6 f7 hseen
          have hpl : plainB (bs ys[k].2).toList = true := by rw [bs_toList]; exact f5
          clear f5
          have hsz : (bs ys[k].2).size ≤ maxLen := by unfold maxLen; omega
          have HP := Lib.hid (fun W => plain_any (bs ys[k].2) W hsz)
          clear hsz
          generalize hq : ys[k].1 = q at *
          generalize ht : bs ys[k].2 = t at *
          have HT := Lib.hid ht
          clear hq ht
          rw [hpl] at HP
          clear hpl
          go_wp2
          go_loop [9] (fun v => ∃ j : Nat, m ≤ j ∧ j ≤ q ∧ v = .int .i64 j) (fun v => q - (intOf v).toNat)
          case atStart => exact ⟨m, Nat.le_refl _, f1, rfl⟩
          case round =>
            obtain ⟨j, hj1, hj2, rfl⟩ := hrel
            by_cases hj : j < q
            · have hjs : j < s.size := by omega
              have hsp : ((s[j].toNat : Int) == 32) = true := by rw [F3.out j hj1 hj hjs]; rfl
              go_wp2
              go_round
              case rel => exact ⟨j + 1, by omega, by omega, by go_num⟩
              case measure => simp [intOf]; omega
            · obtain rfl : q = j := by omega
              clear hj
              by_cases hk0 : 0 < k
              · by_cases hqm : q ≤ m
                · obtain rfl : q = m := by omega
                  obtain ⟨_, _, ⟨rfl, rfl⟩, _, c5, _⟩ := hC.at2 (f := fun x => .string (bs x.2)) (g := fun x => .int .i64 (x.1 : Int)) (fun _ => rfl) (show k - 1 < ys.length by omega)
                  have hk1 : ((k : Int) - 1).toNat = k - 1 := by omega
                  have hT : Touch (bs ys[k - 1].2) t := by
                    rw [← HT.out]
                    refine touch_of ?_
                    rcases F7.out (Nat.le_refl _) with g | g | g | ⟨_, _, g⟩
                    · omega
                    · exact .inl g
                    · exact .inr (.inl g)
                    · exact .inr (.inr g)
                  clear hqm F7
                  rcases hT with hT | ⟨hT, hT2⟩ | ⟨hT, hT2, hT3⟩ | ⟨hT, hT2, hT3, hT4⟩
                  · go_wp2_with (go_at_call 17; refine (HP.out _).mono ?_; rintro e w3 ⟨rfl, rfl⟩)
                    go_round
                    case rel => exact ⟨k + 1, q + t.size, by omega, by go_num, by go_num, F6.out⟩
                    case measure => simp [intOf]; omega
                  · go_wp2_with (go_at_call 17; refine (HP.out _).mono ?_; rintro e w3 ⟨rfl, rfl⟩)
                    go_round
                    case rel => exact ⟨k + 1, q + t.size, by omega, by go_num, by go_num, F6.out⟩
                    case measure => simp [intOf]; omega
                  · go_wp2_with (go_at_call 17; refine (HP.out _).mono ?_; rintro e w3 ⟨rfl, rfl⟩)
                    go_round
                    case rel => exact ⟨k + 1, q + t.size, by omega, by go_num, by go_num, F6.out⟩
                    case measure => simp [intOf]; omega
                  · go_wp2_with (go_at_call 17; refine (HP.out _).mono ?_; rintro e w3 ⟨rfl, rfl⟩)
                    go_round
                    case rel => exact ⟨k + 1, q + t.size, by omega, by go_num, by go_num, F6.out⟩
                    case measure => simp [intOf]; omega
                · have hne : ((q : Int) == (m : Int)) = false := by simp; omega
                  clear F7
                  go_wp2_with (go_at_call 17; refine (HP.out _).mono ?_; rintro e w3 ⟨rfl, rfl⟩)
                  go_round
                  case rel => exact ⟨k + 1, q + t.size, by omega, by go_num, by go_num, F6.out⟩
                  case measure => simp [intOf]; omega
              · clear F7
                go_wp2_with (go_at_call 17; refine (HP.out _).mono ?_; rintro e w3 ⟨rfl, rfl⟩)
                go_round
                case rel => exact ⟨k + 1, q + t.size, by omega, by go_num, by go_num, F6.out⟩
                case measure => simp [intOf]; omega
        · obtain rfl : k = ys.length := by omega
          have F3 := Lib.hid (hseen.end_ (Nat.le_refl _))
          clear hseen
          go_wp2
          go_loop [9] (fun v => ∃ j : Nat, m ≤ j ∧ j ≤ s.size ∧ v = .int .i64 j) (fun v => s.size - (intOf v).toNat)
          case atStart => exact ⟨m, Nat.le_refl _, hms, rfl⟩
          case round =>
            obtain ⟨j, hj1, hj2, rfl⟩ := hrel
            by_cases hj : j < s.size
            · have hsp : ((s[j].toNat : Int) == 32) = true := by rw [F3.out j hj1 hj]; rfl
              go_wp2
              go_round
              case rel => exact ⟨j + 1, by omega, by omega, by go_num⟩
              case measure => simp [intOf]; omega
            · go_wp2
              go_ret
              exact ⟨rfl, hb⟩
    · go_enter Try.func6, Try.ntmps6
      go_wp2_with (go_at_call 9; refine (works_ok _).mono ?_; rintro e w1 ⟨rfl, hb1⟩)
      refine (H1.out _).mono ?_
      rintro e w2 ⟨C, cc, rfl, hC, hb2⟩
      go_wp2
      go_ret
      exact ⟨rfl, hb1.trans (hb2.mono hb1.size)⟩
end Go.Proofs.Ytkiipmkjmocmhaa
