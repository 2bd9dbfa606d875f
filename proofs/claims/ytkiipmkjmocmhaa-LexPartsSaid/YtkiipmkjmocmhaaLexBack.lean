/- The walk of LexBack: the words of joined words are the words, each at its place. -/
import Derived.Test.YtkiipmkjmocmhaaLexPlain2
import Derived.Test.YtkiipmkjmocmhaaLexLaw1
namespace Go.Proofs.Ytkiipmkjmocmhaa
open Go.RowKit Go.Shelf

/-- A word of a chain lies in the text at its place. -/
theorem Chain.lies {prev : Option Bytes} {p : Nat} {l : Bytes} {ys : List Tok} (h : Chain prev p l ys) : ∀ x ∈ ys, p ≤ x.1 ∧ x.1 + x.2.length ≤ p + l.length ∧ (l.drop (x.1 - p)).take x.2.length = x.2 := by
  induction h with
  | done => simp
  | @word prev p g t rest r ht hg h ih =>
    intro x hx
    rcases List.mem_cons.1 hx with rfl | hx
    · refine ⟨Nat.le_add_right _ _, by simp only [List.length_append, List.length_replicate]; omega, ?_⟩
      have e : p + g - p = g := by omega
      simp only [e]
      rw [List.drop_left' (by simp)]
      simp
    · obtain ⟨h1, h2, h3⟩ := ih x hx
      refine ⟨by omega, by simp only [List.length_append, List.length_replicate]; omega, ?_⟩
      have e : x.1 - p = g + (t.length + (x.1 - (p + g + t.length))) := by omega
      rw [e, ← List.drop_drop, List.drop_left' (by simp), ← List.drop_drop, List.drop_left]
      exact h3
def AllPl (l : List ByteArray) (k : Nat) : Prop := ∀ t ∈ (texts l).take k, plainB t = true
theorem AllPl.next {l : List ByteArray} {k : Nat} (h : AllPl l k) (hk : k < l.length) (hp : plainB l[k].toList = true) : AllPl l (k + 1) := by
  intro t ht
  rw [take_snoc _ _ (by simpa [texts] using hk), texts_get l k hk] at ht
  rcases List.mem_append.1 ht with ht | ht
  · exact h t ht
  · simp at ht; subst ht; exact hp
theorem AllPl.all {l : List ByteArray} {k : Nat} (h : AllPl l k) (hk : l.length ≤ k) : ∀ t ∈ texts l, plainB t = true := by
  intro t ht
  exact h t (by rw [List.take_of_length_le (by simpa [texts] using hk)]; exact ht)
/-- What is known of the words of joined words. -/
theorem back_words {l : List ByteArray} (h : ∀ t ∈ texts l, plainB t = true) (hl : (joinS none (texts l)).length ≤ 4096) :
    ∃ ys : List Tok, wordsS (bs (joinS none (texts l))).toList = (ys, 0, 0) ∧ ys.length = l.length ∧ ∀ (k : Nat) (hk : k < ys.length) (hk2 : k < l.length), bs ys[k].2 = l[k] ∧ ys[k].1 + l[k].size ≤ (bs (joinS none (texts l))).size ∧
      (bs (joinS none (texts l))).extract ys[k].1 (ys[k].1 + l[k].size) = l[k] := by
  refine ⟨placed 0 none (texts l), by rw [bs_toList]; exact words_join h hl, ?_, ?_⟩
  · have := congrArg List.length (placed_texts 0 none (texts l))
    simpa [texts] using this
  · intro k hk hk2
    have hch := toks_chain _ (joinS none (texts l)) 0 none (Nat.le_refl _) (join_good h none) (.inl rfl)
    rw [toks_join h] at hch
    obtain ⟨h1, h2, h3⟩ := hch.lies _ (List.getElem_mem hk)
    have ht : (placed 0 none (texts l))[k].2 = l[k].toList := by
      have h4 : ((placed 0 none (texts l)).map (·.2))[k]'(by simpa using hk) = (texts l)[k]'(by simpa [texts] using hk2) := by simp only [placed_texts]
      rw [List.getElem_map, texts_get l k hk2] at h4
      exact h4
    have hsz : (bs (joinS none (texts l))).size = (joinS none (texts l)).length := by rw [← size_toList, bs_toList]
    refine ⟨by rw [ht, bs_of], ?_, ?_⟩
    · rw [ht, size_toList] at h2
      omega
    · apply toList_inj
      rw [toList_extract, bs_toList, ← ht]
      rw [show (placed 0 none (texts l))[k].1 + l[k].size - (placed 0 none (texts l))[k].1 = (placed 0 none (texts l))[k].2.length from by rw [ht, size_toList]; omega]
      exact h3

theorem slice_str (s t : ByteArray) (q m : Nat) (h : q + m ≤ s.size) (e : s.extract q (q + m) = t) (W : World) :
    (Instr.slice 9 (.string s) (some (.int .i64 (q : Int))) (some (.int .i64 ((q : Int) + (m : Int)))) none).run Try.prog W = .ok (.string t) W := by
  have e2 : ((q : Int) + (m : Int)).toNat = q + m := by omega
  rw [run_slice_string_if (h := Try.underlying9), if_pos ⟨by omega, by omega⟩, if_pos ⟨by omega, by omega⟩, e2, Int.toNat_natCast, e]

set_option maxHeartbeats 1000000 in
set_option maxRecDepth 100000 in
theorem back_walk (w : World) (l : List ByteArray) (A : Option Addr) (cap : Nat) (h : Rd encStr 1 w.heap.size A cap l w) (hz : ∀ s ∈ l, s.size ≤ reachBytes) :
    Calls Try.prog 5 #[.slice A l.length cap] w fun e w' => e = .returned (.bool true) ∧ Below w.heap.size w w' := by
  have hlen := h.len
  have HL := Lib.hid (fun (W : World) (hh : Rd encStr 1 W.heap.size A cap l W) => long_any l A cap W reachBytes (by decide) hh hz)
  have HZ := Lib.hid hz
  clear hz
  cases h2 : longB l with
  | true =>
    rw [h2] at HL
    go_enter Try.func5, Try.ntmps5
    go_wp2_with (go_at_call 9; refine (works_ok _).mono ?_; rintro e w1 ⟨rfl, hb1⟩)
    refine (HL.out _ (h.withB hb1)).mono ?_
    rintro e w2 ⟨rfl, rfl⟩
    go_wp2_with fail
    refine (works_ok _).mono ?_
    rintro e w2 ⟨rfl, hb2⟩
    go_wp2
    go_ret
    exact ⟨rfl, hb1.trans (hb2.mono hb1.size)⟩
  | false =>
    rw [h2] at HL
    have hwl : weigh (texts l) ≤ 140737488355328 := by
      unfold longB at h2
      simp at h2
      omega
    have hjl : (joinS none (texts l)).length ≤ 4096 := by
      have h3 := joinS_len (texts l) none
      unfold longB at h2
      simp at h2
      omega
    have hjs : (bs (joinS none (texts l))).size ≤ 4096 := by rw [← size_toList, bs_toList]; exact hjl
    have HJ := Lib.hid hjl
    clear hjl
    have H3 := Lib.hid (fun W h => join_any l A cap W h hwl)
    clear hwl h2
    go_enter Try.func5, Try.ntmps5
    go_wp2_with (go_at_call 9; refine (works_ok _).mono ?_; rintro e w1 ⟨rfl, hb1⟩)
    have hA1 := h.withB hb1
    refine (HL.out _ hA1).mono ?_
    rintro e w2 ⟨rfl, rfl⟩
    go_wp2
    go_loop [3] (fun i => ∃ k : Nat, k ≤ l.length ∧ i = .int .i64 k ∧ AllPl l k) (fun i => l.length - (intOf i).toNat)
    case atStart => exact ⟨0, Nat.zero_le _, rfl, by unfold AllPl; simp⟩
    case round =>
      obtain ⟨k, hk, rfl, hall⟩ := hrel
      by_cases hlt : k < l.length
      · obtain ⟨b, off, rfl, hb, hc⟩ := hA1.at1 (f := fun s => .string s) (fun _ => rfl) hlt
        cases hp : plainB l[k].toList with
        | true =>
          have HP := Lib.hid (hall.next hlt hp)
          clear hall
          go_wp2_with (go_at_call 17; refine (plain_any _ _ (Nat.le_trans (HZ.out _ (List.getElem_mem _)) (by decide))).mono ?_; rintro e w2 ⟨rfl, rfl⟩)
          go_round
          case rel => exact ⟨k + 1, by omega, by go_num, HP.out⟩
          case measure => simp [intOf]; omega
        | false =>
          clear hall
          go_wp2_with (go_at_call 17; refine (plain_any _ _ (Nat.le_trans (HZ.out _ (List.getElem_mem _)) (by decide))).mono ?_; rintro e w2 ⟨rfl, rfl⟩)
          go_ret
          exact ⟨rfl, hb1⟩
      · have HA := Lib.hid (hall.all (by omega))
        clear hall
        obtain ⟨ys, hw, hyl, hys⟩ := back_words HA.out HJ.out
        have H5 := Lib.hid (fun W => words_is (bs (joinS none (texts l))) W (by unfold maxLen; omega) ys 0 0 hw)
        have HY := Lib.hid hys
        clear hys hw
        go_wp2_with fail
        refine (H3.out _ hA1).mono ?_
        rintro e w2 ⟨rfl, hb2⟩
        go_wp2_with fail
        refine (H5.out _).mono ?_
        rintro e w3 ⟨C, cc, rfl, hC, hb3⟩
        have hA3 := (hA1.withB hb2).withB hb3
        have hbb := hb1.trans ((hb2.mono hb1.size).trans (hb3.mono (Nat.le_trans hb1.size hb2.size)))
        rw [hyl]
        have HYL := Lib.hid hyl
        clear hyl
        go_wp2
        go_loopw [8] (fun i wr => ∃ k : Nat, k ≤ l.length ∧ i = .int .i64 k ∧ ∃ n, wr = w3.drewN n) (fun i _ => l.length - (intOf i).toNat)
        case atStart => exact ⟨0, Nat.zero_le _, rfl, 0, rfl⟩
        case round =>
          obtain ⟨k, hk, rfl, m, rfl⟩ := hrel
          by_cases hlt : k < l.length
          · have hlt2 : k < ys.length := by rw [HYL.out]; exact hlt
            obtain ⟨a1, o1, rfl, hl1, c1⟩ := hA3.at1 (f := fun s => .string s) (fun _ => rfl) hlt
            obtain ⟨a3, o3, rfl, hl3, c3, c4⟩ := hC.at2 (f := fun x => .string (bs x.2)) (g := fun x => .int .i64 (x.1 : Int)) (fun _ => rfl) hlt2
            obtain ⟨e1, e2, e3⟩ := HY.out k hlt2 hlt
            rw [e1] at c3
            have E3 := e3
            generalize ys[k].1 = q at *
            clear e1
            have hx0 : (0 : Int) ≤ (k : Int) := by omega
            have hx1 : (k : Int) < (l.length : Int) := by omega
            have hx2 : (0 : Int) ≤ (q : Int) := by omega
            have hx3 : IntKind.i64.wrap ((q : Int) + (l[k].size : Int)) = (q : Int) + (l[k].size : Int) := IntWalk.i64_in _ (by omega)
            have hx4 : (q : Int) + (l[k].size : Int) ≤ ((bs (joinS none (texts l))).size : Int) := by omega
            have hx5 : (0 : Int) ≤ (q : Int) + (l[k].size : Int) := by omega
            have hx6 : ((q : Int) + (l[k].size : Int)).toNat = q + l[k].size := by omega
            have hx7 : q ≤ q + l[k].size := by omega
            have hsl := slice_str _ _ _ _ e2 E3
            clear e3 E3
            go_wp2
            go_quiet (fail)
            go_wp2
            go_roundw
            case rel => exact ⟨k + 1, by omega, by go_num, _, rfl⟩
            case measure => simp [intOf]; omega
          · go_wp2
            go_ret
            exact ⟨rfl, below_drewN hbb m⟩
end Go.Proofs.Ytkiipmkjmocmhaa
