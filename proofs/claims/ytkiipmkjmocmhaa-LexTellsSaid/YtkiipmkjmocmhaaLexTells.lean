/- The walk of LexTells: the words of any text, and any words put together, are the document's. -/
import Derived.Test.YtkiipmkjmocmhaaLexLaw1
namespace Go.Proofs.Ytkiipmkjmocmhaa
open Go.RowKit Go.Shelf

theorem refWords_is (s : ByteArray) (w : World) (hs : s.size ≤ maxLen) (l : List Tok) (p : Nat) (n : Int) (hw : wordsS s.toList = (l, p, n)) :
    Calls Try.prog 15 #[.string s] w fun e w' => ∃ C cc, e = .returned (.tuple #[.slice C l.length cc, .int .i64 (p : Int), .int .i64 n]) ∧ Rd encTok 2 w'.heap.size C cc l w' ∧ Below w.heap.size w w' :=
  (refWords_any s w hs).mono fun e w' ⟨v, he, hown, hb⟩ => by
    rw [hw] at he hown
    obtain ⟨C, cc, rfl, hC⟩ := hown.rd (fun _ => rfl)
    exact ⟨C, cc, he, hC, hb⟩

set_option maxHeartbeats 1000000 in
set_option maxRecDepth 100000 in
theorem tells_walk (s : ByteArray) (hs : s.size ≤ maxLen) (l : List ByteArray) (A : Option Addr) (cap : Nat) (w : World) (R : Nat) (hR : R ≤ 9223372036854770000) (h : Rd encStr 1 w.heap.size A cap l w) (hz : ∀ s ∈ l, s.size ≤ R) :
    Calls Try.prog 4 #[.string s, .slice A l.length cap] w fun e w' => e = .returned (.bool true) ∧ Below w.heap.size w w' := by
  have HL := Lib.hid (long_any l A cap w R hR h hz)
  clear hz
  unfold maxLen at hs
  by_cases h1 : 6000 < s.size
  · go_enter Try.func4, Try.ntmps4
    go_wp2
    go_ret
    exact ⟨rfl, Below.refl _ _⟩
  · cases h2 : longB l with
    | true =>
      rw [h2] at HL
      go_enter Try.func4, Try.ntmps4
      go_wp2_with (go_at_call 14; refine HL.out.mono ?_; rintro e w1 ⟨rfl, rfl⟩)
      go_ret
      exact ⟨rfl, Below.refl _ _⟩
    | false =>
      rw [h2] at HL
      have hwl : weigh (texts l) ≤ 140737488355328 := by
        unfold longB at h2
        simp at h2
        omega
      obtain ⟨ys, p, n, hw⟩ : ∃ ys p n, wordsS s.toList = (ys, p, n) := ⟨_, _, _, rfl⟩
      have H1 := Lib.hid (fun W => words_is s W (by unfold maxLen; exact hs) ys p n hw)
      have H2 := Lib.hid (fun W => refWords_is s W (by unfold maxLen; exact hs) ys p n hw)
      have H3 := Lib.hid (fun W h => join_any l A cap W h hwl)
      have H4 := Lib.hid (fun W h => refJoin_any l A cap W h hwl)
      have h0 : s.size ≤ 6000 := by omega
      clear hwl hw h1 h2
      go_enter Try.func4, Try.ntmps4
      go_wp2_with (go_at_call 14; refine HL.out.mono ?_; rintro e w1 ⟨rfl, rfl⟩)
      refine (H1.out _).mono ?_
      rintro e w1 ⟨C, cc, rfl, hC, hb1⟩
      go_wp2_with fail
      refine (H2.out _).mono ?_
      rintro e w2 ⟨D, cd, rfl, hD, hb2⟩
      have hCl := hC.len
      have hC2 := hC.withB hb2
      have hA2 := (h.withB hb1).withB hb2
      have hb := hb1.trans (hb2.mono hb1.size)
      go_wp2
      go_loopw [11] (fun i wr => ∃ k : Nat, k ≤ ys.length ∧ i = .int .i64 k ∧ ∃ n, wr = w2.drewN n) (fun i _ => ys.length - (intOf i).toNat)
      case atStart => exact ⟨0, Nat.zero_le _, rfl, 0, rfl⟩
      case round =>
        obtain ⟨k, hk, rfl, m, rfl⟩ := hrel
        by_cases hlt : k < ys.length
        · obtain ⟨a1, o1, rfl, hl1, c1, c2⟩ := hC2.at2 (f := fun x => .string (bs x.2)) (g := fun x => .int .i64 (x.1 : Int)) (fun _ => rfl) hlt
          obtain ⟨a3, o3, rfl, hl3, c3, c4⟩ := hD.at2 (f := fun x => .string (bs x.2)) (g := fun x => .int .i64 (x.1 : Int)) (fun _ => rfl) hlt
          have hx0 : (0 : Int) ≤ (k : Int) := by omega
          have hx1 : (k : Int) < (ys.length : Int) := by omega
          go_wp2
          go_quiet (fail)
          go_wp2
          go_roundw
          case rel => exact ⟨k + 1, by omega, by go_num, _, rfl⟩
          case measure => simp [intOf]; omega
        · go_wp2_with fail
          have hA3 : Rd encStr 1 (w2.drewN m).heap.size A cap l (w2.drewN m) := hA2
          refine (H3.out _ hA3).mono ?_
          rintro e w4 ⟨rfl, hb4⟩
          go_wp2_with fail
          refine (H4.out _ (hA3.withB hb4)).mono ?_
          rintro e w5 ⟨rfl, rfl⟩
          go_wp2
          go_ret
          exact ⟨by simp, (below_drewN hb m).trans (hb4.mono hb.size)⟩

theorem tells_row (w : World) (s : ByteArray) (hs : s.size ≤ maxLen) (l : List ByteArray) (A : Option Addr) (cap : Nat) (h : Rd encStr 1 w.heap.size A cap l w) (hz : ∀ s ∈ l, s.size ≤ reachBytes) :
    Calls Try.prog 4 #[.string s, .slice A l.length cap] w fun e w' => e = .returned (.bool true) ∧ Below w.heap.size w w' :=
  tells_walk s hs l A cap w reachBytes (by decide) h hz
end Go.Proofs.Ytkiipmkjmocmhaa
