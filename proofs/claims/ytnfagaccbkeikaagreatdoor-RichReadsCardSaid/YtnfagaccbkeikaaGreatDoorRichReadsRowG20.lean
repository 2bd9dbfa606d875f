/- EvRefW -/
import Derived.Test.YtnfagaccbkeikaaGreatDoorRichReadsRowG07
import Derived.Laws.IdiomStrings
import Derived.RegionTactic
import Derived.Deep.QuietTactic
import Derived.BigQuiet
import Derived.ChangeAlike
/- Walks: EVRs by the document: which may be, their texts. -/






namespace Go.Proofs.YtnfagaccbkeikaaGreatDoor
open Go.RowKit Go.Shelf

theorem below_drewN {B : Nat} {w W : World} {n : Nat} (h : Below B w W) : Below B w (W.drewN n) := ⟨h.os, h.tape, h.output, h.size, h.block⟩
set_option maxRecDepth 100000 in
set_option maxHeartbeats 8000000 in
theorem revMay_any (e : Evr) (dep : Bool) (w : World) (hw : e.wf) : Calls Tryz.prog 114 #[e.val, .bool dep] w fun r w' => r = .returned (.bool (mayB e dep)) ∧ Below w.heap.size w w' := by
  have WV := Lib.hid (fun W => rword_any (bs e.ver) W (by rw [bs_size]; exact hw.2.1))
  have WR := Lib.hid (fun W => rword_any (bs e.rel) W (by rw [bs_size]; exact hw.2.2))
  obtain ⟨r, hr⟩ : ∃ r, r = mayB e dep := ⟨_, rfl⟩
  rw [← hr]
  unfold mayB at hr
  rw [bs_toList] at WV WR
  have hx : (bs e.rel).toList = e.rel := bs_toList _
  clear hw
  unfold Evr.val
  obtain ⟨p, v, l⟩ := e
  dsimp only at *
  by_cases h0 : 0 ≤ p
  · have h0' : ¬ p < 0 := by omega
    by_cases h1 : p ≤ 2147483647
    · have h1' : ¬ 2147483647 < p := by omega
      rw [decide_eq_true h0, decide_eq_true h1] at hr
      cases hv : wordB v with
      | false =>
        rw [hv] at hr WV
        obtain rfl : r = false := hr
        clear hx hv
        go_enter Tryz.func114, Tryz.ntmps114
        go_wp2_with (go_at_call 159; refine (WV.out _).mono ?_; rintro e' w' ⟨rfl, rfl⟩)
        go_ret
        exact ⟨rfl, (Below.refl _ _).alloc (Nat.le_refl _) _⟩
      | true =>
        rw [hv] at hr WV
        by_cases hl : l = []
        · have f1 : (bs l).toList = [] := by rw [hx, hl]
          have hwl : wordB l = false := by rw [hl]; rfl
          obtain rfl : r = dep := by rw [hr, hwl, hl]; cases dep <;> rfl
          clear hx hl hr hv hwl
          go_enter Tryz.func114, Tryz.ntmps114
          go_wp2_with (go_at_call 159; refine (WV.out _).mono ?_; rintro e' w' ⟨rfl, rfl⟩)
          go_ret
          exact ⟨rfl, (Below.refl _ _).alloc (Nat.le_refl _) _⟩
        · have f1 : ¬ (bs l).toList = [] := by rw [hx]; exact hl
          have f2 : (bs l).toList.isEmpty = false := by rw [hx]; simpa using hl
          have f3 : l.isEmpty = false := by simpa using hl
          obtain ⟨y, hy⟩ : ∃ y, y = wordB l := ⟨_, rfl⟩
          rw [← hy] at hr WR
          obtain rfl : r = y := by rw [hr, f3]; cases y <;> cases dep <;> rfl
          clear hx hl hr hv hy f3
          go_enter Tryz.func114, Tryz.ntmps114
          go_wp2_with fail
          go_at_call 159
          refine (WV.out _).mono ?_
          rintro e' w' ⟨rfl, rfl⟩
          go_wp2_with fail
          go_at_call 159
          refine (WR.out _).mono ?_
          rintro e' w' ⟨rfl, rfl⟩
          go_wp2_with fail
          go_ret
          exact ⟨rfl, (Below.refl _ _).alloc (Nat.le_refl _) _⟩
    · obtain rfl : r = false := by rw [hr, decide_eq_false h1]; simp
      have h2 : 2147483647 < p := by omega
      clear hx hr
      go_enter Tryz.func114, Tryz.ntmps114
      go_wp2_with fail
      go_ret
      exact ⟨rfl, (Below.refl _ _).alloc (Nat.le_refl _) _⟩
  · obtain rfl : r = false := by rw [hr, decide_eq_false h0]; rfl
    have h2 : p < 0 := by omega
    clear hx hr
    go_enter Tryz.func114, Tryz.ntmps114
    go_wp2_with fail
    go_ret
    exact ⟨rfl, (Below.refl _ _).alloc (Nat.le_refl _) _⟩
set_option maxRecDepth 100000 in
set_option maxHeartbeats 8000000 in
theorem rcut_any (s : ByteArray) (d : UInt8) (w : World) (hs : s.size ≤ 4000000000) : Calls Tryz.prog 173 #[.string s, .int .u8 (d.toNat : Int)] w fun e w' => e = .returned (.tuple #[.string (bs (Lib.cut s.toList [d]).1), .string (bs (Lib.cut s.toList [d]).2.1), .bool (Lib.cut s.toList [d]).2.2]) ∧ Below w.heap.size w w' := by
  obtain ⟨r1, hr1⟩ : ∃ x, x = bs (Lib.cut s.toList [d]).1 := ⟨_, rfl⟩
  obtain ⟨r2, hr2⟩ : ∃ x, x = bs (Lib.cut s.toList [d]).2.1 := ⟨_, rfl⟩
  obtain ⟨r3, hr3⟩ : ∃ x, x = (Lib.cut s.toList [d]).2.2 := ⟨_, rfl⟩
  rw [← hr1, ← hr2, ← hr3]
  have H1 := Lib.hid hr1
  have H2 := Lib.hid hr2
  have H3 := Lib.hid hr3
  clear hr1 hr2 hr3
  go_enter Tryz.func173, Tryz.ntmps173
  go_wp2_with fail
  go_loopw [7] (fun i wr => ∃ k : Nat, k ≤ s.size ∧ i = .int .i64 (k : Int) ∧ Hid (d ∉ s.toList.take k) ∧ Below w.heap.size w wr) (fun i _ => s.size - (intOf i).toNat)
  case atStart => exact ⟨0, by omega, rfl, Lib.hid (by simp), Below.refl _ _⟩
  case round =>
    obtain ⟨k, hk, rfl, hN, hB⟩ := hrel
    have HB := Lib.hid hB
    clear hB
    by_cases hlt : k < s.size
    · have HT := Lib.hid (toList_take_succ s k hlt)
      have HD := Lib.hid (toList_drop s k hlt)
      by_cases hd : s[k] = d
      · have hsp : s.toList = s.toList.take k ++ d :: s.toList.drop (k + 1) := by rw [← hd, ← HD.out, List.take_append_drop]
        have hcut := cut_here (b := s.toList.drop (k + 1)) hN.out
        rw [← hsp] at hcut
        have e1 : bs (s.toList.take k) = s.extract 0 k := by rw [← bs_of (s.extract 0 k), toList_extract]; simp
        have e2 : bs (s.toList.drop (k + 1)) = s.extract (k + 1) s.size := by
          rw [← bs_of (s.extract (k + 1) s.size), toList_extract, List.take_of_length_le]
          rw [List.length_drop, size_toList]; exact Nat.le_refl _
        obtain rfl : r1 = s.extract 0 k := by rw [H1.out, hcut]; exact e1
        obtain rfl : r2 = s.extract (k + 1) s.size := by rw [H2.out, hcut]; exact e2
        obtain rfl : r3 = true := by rw [H3.out, hcut]
        have hd2 : (s[k].toNat : Int) = (d.toNat : Int) := by rw [hd]
        have i1 : (0 : Int) ≤ (k : Int) := by omega
        have i2 : (k : Int) + 1 ≤ (s.size : Int) := by omega
        have hw : IntKind.i64.wrap ((k : Int) + 1) = (k : Int) + 1 := by rw [IntWalk.i64_in _ (by omega)]
        have i3 : (0 : Int) ≤ (k : Int) + 1 := by omega
        have i4 : ((k : Int) + 1).toNat = k + 1 := by omega
        have i5 : (k : Int) ≤ (s.size : Int) := by omega
        clear hsp hcut e1 e2 hd HT HD hN H1 H2 H3
        go_wp2_with fail
        go_quiet (fail)
        go_wp2_with fail
        go_ret3
        exact ⟨rfl, below_drewN HB.out⟩
      · have hd2 : ((s[k].toNat : Int) == (d.toNat : Int)) = false := by simp only [beq_eq_false_iff_ne]; intro h; exact hd (UInt8.toNat_inj.1 (by omega))
        have hd3 : ¬ (s[k].toNat : Int) = (d.toNat : Int) := by simpa using hd2
        have HN := Lib.hid (show d ∉ s.toList.take (k + 1) from by rw [HT.out]; intro hm; exact (List.mem_append.1 hm).elim hN.out (fun h => hd (List.mem_singleton.1 h).symm))
        clear HT HD hN hd
        go_wp2_with fail
        go_roundw
        case rel => exact ⟨k + 1, by omega, by go_num, HN, HB.out⟩
        case measure => simp [intOf]; omega
    · have hks : k = s.size := by omega
      have hno : d ∉ s.toList := by have := hN.out; rw [hks, ← size_toList, List.take_length] at this; exact this
      have hcut := cut_no hno
      obtain rfl : r1 = s := by rw [H1.out, hcut]; exact bs_of s
      obtain rfl : r2 = ⟨#[]⟩ := by rw [H2.out, hcut]; rfl
      obtain rfl : r3 = false := by rw [H3.out, hcut]
      clear hno hcut hks hN H1 H2 H3
      go_wp2_with fail
      go_ret3
      exact ⟨rfl, HB.out⟩
end Go.Proofs.YtnfagaccbkeikaaGreatDoor
