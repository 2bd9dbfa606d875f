/- DepName, RlPlain, RichPlain, RlWords, RichMem -/
import Derived.Test.YteobmfpbgnmffaaGreatDoorT06
set_option linter.unusedVariables false
set_option maxHeartbeats 8000000
set_option maxRecDepth 100000
open Go.Lib (hid)
set_option linter.unusedSimpArgs false
namespace Go.Proofs.YteobmfpbgnmffaaGreatDoor
section
open Go.RowKit Go.Shelf
def qGH (w : World) : Prop := 1 < w.heap.size /\ w.cell? ⟨1, 0, none⟩ = some (.string ⟨#[97, 110, 100]⟩) /\ w.cell? ⟨1, 1, none⟩ = some (.string ⟨#[111, 114]⟩) /\ w.cell? ⟨1, 2, none⟩ = some (.string ⟨#[105, 102]⟩) /\ w.cell? ⟨1, 3, none⟩ = some (.string ⟨#[101, 108, 115, 101]⟩) /\
 w.cell? ⟨1, 4, none⟩ = some (.string ⟨#[117, 110, 108, 101, 115, 115]⟩) /\ w.cell? ⟨1, 5, none⟩ = some (.string ⟨#[119, 105, 116, 104]⟩) /\ w.cell? ⟨1, 6, none⟩ = some (.string ⟨#[119, 105, 116, 104, 111, 117, 116]⟩)
theorem qGH.below {w w' : World} (h : qGH w) (hb : Below w.heap.size w w') : qGH w' := by
 obtain ⟨h0, h1, h2, h3, h4, h5, h6, h7⟩ := h;have hs := hb.size;exact ⟨by omega, (hb.cell (p := ⟨_, 0, none⟩) h0).trans h1, (hb.cell (p := ⟨_, 1, none⟩) h0).trans h2, (hb.cell (p := ⟨_, 2, none⟩) h0).trans h3, (hb.cell (p := ⟨_, 3, none⟩) h0).trans h4, (hb.cell (p := ⟨_, 4, none⟩) h0).trans h5, (hb.cell (p := ⟨_, 5, none⟩) h0).trans h6, (hb.cell (p := ⟨_, 6, none⟩) h0).trans h7⟩
def PkIn (w : World) : Prop := qL9 w /\ qGH w
theorem PkIn.below {w w' : World} (h : PkIn w) (hb : Below w.heap.size w w') : PkIn w' := ⟨h.1.below hb, h.2.below hb⟩
def qK0 : qAK := [97, 98, 99, 100, 101, 102, 103, 104, 105, 106, 107, 108, 109, 110, 111, 112, 113, 114, 115, 116, 117, 118, 119, 120, 121, 122, 65, 66, 67, 68, 69, 70, 71, 72, 73, 74, 75, 76, 77, 78, 79, 80, 81, 82, 83, 84, 85, 86, 87, 88, 89, 90, 48, 49, 50, 51, 52, 53, 54, 55, 56, 57, 46, 95, 43, 45, 47, 58, 64, 126, 94]
theorem qJF : ∀ k : Fin 256, (sgnI (k.val : Int) = true /\ 0 <= Lib.indexByte qK0 k.val.toUInt8) \/ (sgnI (k.val : Int) = false /\ Lib.indexByte qK0 k.val.toUInt8 = -1) := by decide +kernel
theorem qPO {n : Int} (h : sgnI n = true) : 0 <= n /\ n <= 126 := by
 unfold sgnI at h;have := of_decide_eq_true h;omega
theorem qVB {n : Nat} (h : n < 256) (hs : sgnI (n : Int) = true) : ∃ i : Nat, Lib.indexByte qK0 n.toUInt8 = (i : Int) := by
 rcases qJF ⟨n, h⟩ with ⟨_, h2⟩ | ⟨h1, _⟩
 ·exact Int.eq_ofNat_of_zero_le h2
 ·dsimp only at h1; rw [hs] at h1; cases h1
theorem qTH {n : Nat} (h : n < 256) (hs : sgnI (n : Int) = false) : Lib.indexByte qK0 n.toUInt8 = -1 := by
 rcases qJF ⟨n, h⟩ with ⟨h1, _⟩ | ⟨_, h2⟩
 ·dsimp only at h1; rw [hs] at h1; cases h1
 ·exact h2
theorem qGJ (n : Nat) (i : Int) (w : World) (h : Lib.indexByte qK0 n.toUInt8 = i) : Calls Tryz.prog 157 #[.string ⟨#[97, 98, 99, 100, 101, 102, 103, 104, 105, 106, 107, 108, 109, 110, 111, 112, 113, 114, 115, 116, 117, 118, 119, 120, 121, 122, 65, 66, 67, 68, 69, 70, 71, 72, 73, 74, 75, 76, 77, 78, 79, 80, 81, 82, 83, 84, 85, 86, 87, 88, 89, 90, 48, 49, 50, 51, 52, 53, 54, 55, 56, 57, 46, 95, 43, 45, 47, 58, 64, 126, 94]⟩, .int .u8 (n : Int)] w fun e w' => e = .returned (.int .i64 i) /\ w = w' := by
 refine (Tryz.strings_IndexByte _ (n : Int) w).mono ?_;rintro e w' ⟨rfl, rfl⟩;subst h;exact ⟨rfl, rfl⟩
theorem qI9 {s : ByteArray} {k : Nat} (hk : k < s.size) (hc : sgn s[k] = false) : qBW s.toList = false := by
 cases h : qBW s.toList with
 | false => rfl
 | true =>
  have hm : s[k] ∈ s.toList := by rw [<- qC0 s k hk]; exact List.getElem_mem _
  have := (qDP.1 h).2.2.1 _ hm;rw [hc] at this; cases this
theorem qIQ {s : ByteArray} (h : s.size = 0) : qBW s.toList = false := by
 cases hw : qBW s.toList with
 | false => rfl
 | true => have := (qDP.1 hw).1; rw [qA3] at this; omega
theorem qJ4 {s : ByteArray} (h : 64 < s.size) : qBW s.toList = false := by
 cases hw : qBW s.toList with
 | false => rfl
 | true => have := (qDP.1 hw).2.1; rw [qA3] at this; omega
theorem qB3 {l : qAK} (h : l ∈ qDI) : qBW l = false := by
 cases hw : qBW l with
 | false => rfl
 | true => exact absurd h (qDP.1 hw).2.2.2
theorem qK7 {s : ByteArray} (h1 : 1 <= s.size) (h2 : s.size <= 64) (h : ∀ c ∈ s.toList, sgn c = true) (h3 : s.toList ∉ qDI) : qBW s.toList = true := qDP.2 ⟨by rw [qA3]; exact h1, by rw [qA3]; exact h2, h, h3⟩
theorem qLN {s : ByteArray} {k : Nat} (hk : k < s.size) (h : ∀ c ∈ s.toList.take k, sgn c = true) (hc : sgn s[k] = true) : ∀ c ∈ s.toList.take (k + 1), sgn c = true := by
 rw [qDA s k hk];intro c hm;rcases List.mem_append.1 hm with hm | hm
 ·exact h c hm
 ·rw [List.mem_singleton] at hm; subst hm; exact hc
theorem qQ3 {s : ByteArray} {k : Nat} (hk : ¬ k < s.size) (h : ∀ c ∈ s.toList.take k, sgn c = true) : ∀ c ∈ s.toList, sgn c = true := by
 rwa [List.take_of_length_le (by rw [qA3]; omega)] at h
theorem qKE (l : qAK) : Lib.hasPrefix l [47] = (l.head? == some 47) := by
 unfold Lib.hasPrefix
 cases l with
 | nil => rfl
 | cons c l =>
  simp [List.isPrefixOf];rw [Bool.eq_iff_iff, beq_iff_eq, beq_iff_eq];exact eq_comm
theorem qJS {l : qAK} (q0 : (l == [97, 110, 100]) = false) (q1 : (l == [111, 114]) = false) (q2 : (l == [105, 102]) = false) (q3 : (l == [101, 108, 115, 101]) = false) (q4 : (l == [117, 110, 108, 101, 115, 115]) = false) (q5 : (l == [119, 105, 116, 104]) = false) (q6 : (l == [119, 105, 116, 104, 111, 117, 116]) = false) : l ∉ qDI := by
 unfold qDI;simp only [List.mem_cons, List.not_mem_nil, or_false, not_or];exact ⟨beq_eq_false_iff_ne.1 q0, beq_eq_false_iff_ne.1 q1, beq_eq_false_iff_ne.1 q2, beq_eq_false_iff_ne.1 q3, beq_eq_false_iff_ne.1 q4, beq_eq_false_iff_ne.1 q5, beq_eq_false_iff_ne.1 q6⟩
theorem qRD (w : World) : (Instr.index 196 (.agg #[.string ⟨#[97, 110, 100]⟩, .string ⟨#[111, 114]⟩, .string ⟨#[105, 102]⟩, .string ⟨#[101, 108, 115, 101]⟩, .string ⟨#[117, 110, 108, 101, 115, 115]⟩, .string ⟨#[119, 105, 116, 104]⟩, .string ⟨#[119, 105, 116, 104, 111, 117, 116]⟩]) (.int .i64 0)).run Tryz.prog w = .ok (.string ⟨#[97, 110, 100]⟩) w := by kernel_rfl
theorem qS9 (w : World) : (Instr.index 196 (.agg #[.string ⟨#[97, 110, 100]⟩, .string ⟨#[111, 114]⟩, .string ⟨#[105, 102]⟩, .string ⟨#[101, 108, 115, 101]⟩, .string ⟨#[117, 110, 108, 101, 115, 115]⟩, .string ⟨#[119, 105, 116, 104]⟩, .string ⟨#[119, 105, 116, 104, 111, 117, 116]⟩]) (.int .i64 1)).run Tryz.prog w = .ok (.string ⟨#[111, 114]⟩) w := by kernel_rfl
theorem qS2 (w : World) : (Instr.index 196 (.agg #[.string ⟨#[97, 110, 100]⟩, .string ⟨#[111, 114]⟩, .string ⟨#[105, 102]⟩, .string ⟨#[101, 108, 115, 101]⟩, .string ⟨#[117, 110, 108, 101, 115, 115]⟩, .string ⟨#[119, 105, 116, 104]⟩, .string ⟨#[119, 105, 116, 104, 111, 117, 116]⟩]) (.int .i64 2)).run Tryz.prog w = .ok (.string ⟨#[105, 102]⟩) w := by kernel_rfl
theorem qRJ (w : World) : (Instr.index 196 (.agg #[.string ⟨#[97, 110, 100]⟩, .string ⟨#[111, 114]⟩, .string ⟨#[105, 102]⟩, .string ⟨#[101, 108, 115, 101]⟩, .string ⟨#[117, 110, 108, 101, 115, 115]⟩, .string ⟨#[119, 105, 116, 104]⟩, .string ⟨#[119, 105, 116, 104, 111, 117, 116]⟩]) (.int .i64 3)).run Tryz.prog w = .ok (.string ⟨#[101, 108, 115, 101]⟩) w := by kernel_rfl
theorem qRU (w : World) : (Instr.index 196 (.agg #[.string ⟨#[97, 110, 100]⟩, .string ⟨#[111, 114]⟩, .string ⟨#[105, 102]⟩, .string ⟨#[101, 108, 115, 101]⟩, .string ⟨#[117, 110, 108, 101, 115, 115]⟩, .string ⟨#[119, 105, 116, 104]⟩, .string ⟨#[119, 105, 116, 104, 111, 117, 116]⟩]) (.int .i64 4)).run Tryz.prog w = .ok (.string ⟨#[117, 110, 108, 101, 115, 115]⟩) w := by kernel_rfl
theorem qRK (w : World) : (Instr.index 196 (.agg #[.string ⟨#[97, 110, 100]⟩, .string ⟨#[111, 114]⟩, .string ⟨#[105, 102]⟩, .string ⟨#[101, 108, 115, 101]⟩, .string ⟨#[117, 110, 108, 101, 115, 115]⟩, .string ⟨#[119, 105, 116, 104]⟩, .string ⟨#[119, 105, 116, 104, 111, 117, 116]⟩]) (.int .i64 5)).run Tryz.prog w = .ok (.string ⟨#[119, 105, 116, 104]⟩) w := by kernel_rfl
theorem qS0 (w : World) : (Instr.index 196 (.agg #[.string ⟨#[97, 110, 100]⟩, .string ⟨#[111, 114]⟩, .string ⟨#[105, 102]⟩, .string ⟨#[101, 108, 115, 101]⟩, .string ⟨#[117, 110, 108, 101, 115, 115]⟩, .string ⟨#[119, 105, 116, 104]⟩, .string ⟨#[119, 105, 116, 104, 111, 117, 116]⟩]) (.int .i64 6)).run Tryz.prog w = .ok (.string ⟨#[119, 105, 116, 104, 111, 117, 116]⟩) w := by kernel_rfl
theorem qHW (s : ByteArray) (w : World) (hs : s.size <= maxLen) (hI : PkIn w) : Calls Tryz.prog 113 #[.string s] w fun e w' => e = .returned (.bool (qBW s.toList)) /\ Below w.heap.size w w' := by
 unfold maxLen at hs;by_cases h0 : s.size = 0
 ·have HW := hid (qIQ h0);have e0 : s.toList = [] := List.eq_nil_of_length_eq_zero (by rw [qA3]; exact h0);rw [HW.out];clear HW hI;obtain rfl : s = ⟨#[]⟩ := qBD (e0.trans (qA4 []).symm);clear e0 h0
  go_enter Tryz.func113, Tryz.ntmps113
  go_wp2
  go_ret;exact ⟨rfl, Below.refl _ _⟩
 by_cases h64 : 64 < s.size
 ·have HW := hid (qJ4 h64);rw [HW.out];clear HW hI;have h65 : (64 : Int) < (s.size : Int) := by omega
  have h1 : ¬ (s.size : Int) < 1 := by omega
  go_enter Tryz.func113, Tryz.ntmps113
  go_wp2
  go_ret;exact ⟨rfl, Below.refl _ _⟩
 have h65 : ¬ (64 : Int) < (s.size : Int) := by omega
 have h1 : ¬ (s.size : Int) < 1 := by omega
 obtain ⟨r, hr⟩ : ∃ r, r = qBW s.toList := ⟨_, rfl⟩;rw [<- hr];have HR := hid hr;have WI := hid hI.2;clear hr hI
 go_enter Tryz.func113, Tryz.ntmps113
 go_wp2
 go_loopw [] (fun wr => ∃ k : Nat, k <= s.size /\ wr = w.iter s k /\ Hid (∀ c ∈ s.toList.take k, sgn c = true)) (fun wr => s.size - wr.iterPos w.heap.size)
 case atStart => exact ⟨0, by omega, rfl, hid (by intro c hc; cases hc)⟩
 case round =>
  obtain ⟨k, hk, rfl, hS⟩ := hrel;by_cases hlt : k < s.size
  ·have hb := UInt8.toNat_lt s[k];by_cases ha : (s[k]).toNat < 128
   ·have hnx := fun ty => run_next_ascii (P := Tryz.prog) w s k ty hlt ha
    cases hc : sgnI ((s[k]).toNat : Int) with
    | true =>
     have HT := hid (qLN hlt hS.out hc);obtain ⟨_, h126⟩ := qPO hc;obtain ⟨i, hi⟩ := qVB (by omega) hc;have IB := hid (fun W => qGJ (s[k]).toNat i W hi);generalize (s[k]).toNat = c at *;have g1 : ¬ (126 : Int) < (c : Int) := by omega
     have g2 : ¬ (i : Int) < 0 := by omega
     clear hS hi hc;go_wp2_with (go_at_call 157; refine (IB.out _).mono ?_; rintro e w' ⟨rfl, rfl⟩)
     go_roundw
     case rel => exact ⟨k + 1, by omega, rfl, HT⟩
     case measure => simp; omega
    | false =>
     obtain rfl : r = false := HR.out.trans (qI9 hlt hc);have IB := hid (fun W => qGJ (s[k]).toNat (-1) W (qTH (by omega) hc));generalize (s[k]).toNat = c at *;clear hS hc HR;by_cases g1 : (126 : Int) < (c : Int)
     ·go_wp2_with fail
      go_ret;exact ⟨rfl, bR.alloc lR _⟩
     ·go_wp2_with (go_at_call 157; refine (IB.out _).mono ?_; rintro e w' ⟨rfl, rfl⟩)
      go_ret;exact ⟨rfl, bR.alloc lR _⟩
   ·have hnx := fun ty => run_next_any (P := Tryz.prog) w s k ty hlt;obtain ⟨d1, d2⟩ := decode_high s k hlt (by omega);have hc : sgn s[k] = false := by
     cases hc : sgn s[k] with
     | false => rfl
     | true => have := qPO hc; omega
    obtain rfl : r = false := HR.out.trans (qI9 hlt hc);generalize (Utf8.decode s k).1 = c at *;generalize (Utf8.decode s k).2 = d at *;have g1 : (126 : Int) < (c : Int) := by omega
    clear hS hc HR;go_wp2_with fail
    go_ret;exact ⟨rfl, bR.alloc lR _⟩
  ·have HA := hid (qQ3 hlt hS.out);have hnx := fun ty => run_next_end (P := Tryz.prog) w s k ty hlt;have WJ := hid (WI.out.below (w' := w.iter s k) (bR.alloc lR _));clear hS;obtain ⟨W, hW⟩ : ∃ W, W = w.iter s k := ⟨_, rfl⟩;have hBW : Below w.heap.size w W := by rw [hW]; exact bR.alloc lR _
   rw [<- hW] at hnx WJ |-;obtain ⟨v0, v1, v2, v3, v4, v5, v6, v7⟩ := WJ.out;clear hW WJ WI;have i0 := qRD;have i1 := qS9;have i2 := qS2;have i3 := qRJ;have i4 := qRU;have i5 := qRK;have i6 := qS0;go_wp2_with fail
   refine wp_loop_rounds 8 ?_;rw [rounds_succ];rcases Bool.eq_false_or_eq_true (s.toList == [97, 110, 100]) with q0 | q0
   ·obtain rfl : r = false := HR.out.trans (qB3 (by rw [beq_iff_eq.1 q0]; decide));clear HR HA;go_wp2_with fail
    go_ret;exact ⟨rfl, hBW⟩
   go_wp2_with fail
   rw [rounds_succ];rcases Bool.eq_false_or_eq_true (s.toList == [111, 114]) with q1 | q1
   ·obtain rfl : r = false := HR.out.trans (qB3 (by rw [beq_iff_eq.1 q1]; decide));clear HR HA;go_wp2_with fail
    go_ret;exact ⟨rfl, hBW⟩
   go_wp2_with fail
   rw [rounds_succ];rcases Bool.eq_false_or_eq_true (s.toList == [105, 102]) with q2 | q2
   ·obtain rfl : r = false := HR.out.trans (qB3 (by rw [beq_iff_eq.1 q2]; decide));clear HR HA;go_wp2_with fail
    go_ret;exact ⟨rfl, hBW⟩
   go_wp2_with fail
   rw [rounds_succ];rcases Bool.eq_false_or_eq_true (s.toList == [101, 108, 115, 101]) with q3 | q3
   ·obtain rfl : r = false := HR.out.trans (qB3 (by rw [beq_iff_eq.1 q3]; decide));clear HR HA;go_wp2_with fail
    go_ret;exact ⟨rfl, hBW⟩
   go_wp2_with fail
   rw [rounds_succ];rcases Bool.eq_false_or_eq_true (s.toList == [117, 110, 108, 101, 115, 115]) with q4 | q4
   ·obtain rfl : r = false := HR.out.trans (qB3 (by rw [beq_iff_eq.1 q4]; decide));clear HR HA;go_wp2_with fail
    go_ret;exact ⟨rfl, hBW⟩
   go_wp2_with fail
   rw [rounds_succ];rcases Bool.eq_false_or_eq_true (s.toList == [119, 105, 116, 104]) with q5 | q5
   ·obtain rfl : r = false := HR.out.trans (qB3 (by rw [beq_iff_eq.1 q5]; decide));clear HR HA;go_wp2_with fail
    go_ret;exact ⟨rfl, hBW⟩
   go_wp2_with fail
   rw [rounds_succ];rcases Bool.eq_false_or_eq_true (s.toList == [119, 105, 116, 104, 111, 117, 116]) with q6 | q6
   ·obtain rfl : r = false := HR.out.trans (qB3 (by rw [beq_iff_eq.1 q6]; decide));clear HR HA;go_wp2_with fail
    go_ret;exact ⟨rfl, hBW⟩
   go_wp2_with fail
   rw [rounds_succ];obtain rfl : r = true := HR.out.trans (qK7 (by omega) (by omega) HA.out (qJS q0 q1 q2 q3 q4 q5 q6));clear HR HA;go_wp2_with fail
   go_ret;exact ⟨rfl, hBW⟩
theorem qI0 (s : ByteArray) (w : World) (hs : s.size <= maxLen) (hI : PkIn w) : Calls Tryz.prog 114 #[.string s] w fun e w' => e = .returned (.bool (qCK s.toList)) /\ Below w.heap.size w w' := by
 have NA := hid (qHW s w hs hI);have HP := hid (fun W => Tryz.strings_HasPrefix s ⟨#[47]⟩ W);obtain ⟨r, hr⟩ : ∃ r, r = qCK s.toList := ⟨_, rfl⟩;rw [<- hr];unfold qCK at hr;clear hI hs
 cases hn : qBW s.toList with
 | false =>
  rw [hn] at NA hr;obtain rfl : r = false := hr;clear HP hn
  go_enter Tryz.func114, Tryz.ntmps114
  go_wp2_with (go_at_call 113; refine NA.out.mono ?_; rintro e w1 ⟨rfl, h⟩)
  go_ret;exact ⟨rfl, h⟩
 | true =>
  rw [hn] at NA hr;have HR := hid (show Lib.hasPrefix s.data.toList [47] = r from by rw [hr, Bool.true_and, qKE]; exact congrArg (fun l : qAK => l.head? == some 47) (Lib.toList_data s).symm);clear hn hr
  go_enter Tryz.func114, Tryz.ntmps114
  go_wp2_with fail
  go_at_call 113
  refine NA.out.mono ?_;rintro e w1 ⟨rfl, h⟩;go_wp2_with fail
  go_at_call 158
  refine (HP.out _).mono ?_;rintro e w2 ⟨rfl, rfl⟩;go_wp2_with fail
  go_ret;exact ⟨qAA HR.out, h⟩
end
section
open Go.RowKit
abbrev Tok := Nat × qAK
end
section
open Go.RowKit
inductive RT where
 | mk (k : Int) (d : Dp) (l : List RT)
def qAN (d : Dp) : Bool := d.name.isEmpty && (d.op == 0 && qFA d.evr)
mutual
def RT.parts : RT -> Nat | .mk _ _ l => 1 + qAB l
def qAB : List RT -> Nat | [] => 0 | t :: l => t.parts + qAB l
end
mutual
def RT.deep : RT -> Nat | .mk k _ l => if k = 1 then 0 else qCD l + 1
def qCD : List RT -> Nat | [] => 0 | t :: l => max t.deep (qCD l)
end
inductive PR where
 | stop (p : Nat) (e : Int)
 | ok (t : RT) (ws : List Tok) (n : Nat)
theorem qHL (l r : List RT) : qAB (l ++ r) = qAB l + qAB r := by
 induction l with
 | nil => simp [qAB]
 | cons a l ih => simp [qAB, ih, Nat.add_assoc]
theorem qPD (l r : List RT) : qCD (l ++ r) = max (qCD l) (qCD r) := by
 induction l with
 | nil => simp [qCD]
 | cons a l ih => simp [qCD, ih, Nat.max_assoc]
theorem qO8 (t : RT) : 1 <= t.parts := by obtain ⟨k, d, l⟩ := t; unfold RT.parts; omega
theorem qCX (l : List RT) : l.length <= qAB l := by
 induction l with
 | nil => simp
 | cons a l ih => have := qO8 a; simp only [qAB, List.length_cons]; omega
end
section
open Go.RowKit Go.Shelf
attribute [local go_sem] Oper.semAt_some
def qTO (x : Tok) : List Value := [.string (bs x.2), .int .i64 (x.1 : Int)]
end
section
open Go.RowKit
mutual
def RV.tree : RV -> RT | .node k d _ _ l => .mk k d (qA6 l)
def qA6 : List RV -> List RT | [] => [] | a :: l => a.tree :: qA6 l
end
theorem qFR (l r : List RV) : qA6 (l ++ r) = qA6 l ++ qA6 r := by
 induction l with
 | nil => rfl
 | cons a l ih => simp [qA6, ih]
theorem qAD (l : List RV) : (qA6 l).length = l.length := by
 induction l with
 | nil => rfl
 | cons a l ih => simp [qA6, ih]
def RV.val (t : RV) : Value := .agg #[.int .u8 t.kind, .string (bs t.dep.name), .int .u8 t.dep.op, .int .i64 t.dep.evr.epoch, .string (bs t.dep.evr.ver), .string (bs t.dep.evr.rel), .slice t.addr t.args.length t.cap]
inductive TQ (Q : Nat -> Prop) (W : World) : RV -> Prop where
 | mk {t : RV} : t.dep.wf -> t.args.length <= t.cap -> t.cap <= maxLen -> (∀ (k : Nat) (hk : k < t.args.length), ∃ b o, t.addr = some ⟨b, o, none⟩ /\ Q b /\ ∀ j u, (encR t.args[k])[j]? = some u -> W.cell? ⟨b, o + k * 7 + j, none⟩ = some u) -> (∀ a ∈ t.args, TQ Q W a) -> TQ Q W t
theorem TQ.keep {Q Q' : Nat -> Prop} {W W' : World} {t : RV} (h : TQ Q W t) (hQ : ∀ b, Q b -> Q' b) (hb : ∀ b, Q b -> W'.heap[b]? = W.heap[b]?) : TQ Q' W' t := by
 induction h with
 | mk h1 h2 h3 h4 _ ih =>
  refine .mk h1 h2 h3 (fun k hk => ?_) ih;obtain ⟨b, o, e, q, hc⟩ := h4 k hk;exact ⟨b, o, e, hQ b q, fun j u hu => (World.cell?_of_block (w := W) (hb b q)).trans (hc j u hu)⟩
theorem TQ.rtree {Q : Nat -> Prop} {W : World} {t : RV} {B : Nat} (h : TQ Q W t) (hQ : ∀ b, Q b -> b < B) : RTree B W t := by
 induction h with
 | mk h1 h2 h3 h4 _ ih =>
  refine .mk h1 ⟨h2, h3, fun k hk => ?_⟩ ih;obtain ⟨b, o, e, q, hc⟩ := h4 k hk;exact ⟨b, o, e, hQ b q, hc⟩
structure ButR (R : Nat) (w w' : World) : Prop where
 os : w'.os = w.os
 tape : w'.tape = w.tape
 output : w'.output = w.output
 size : w.heap.size <= w'.heap.size
 block : ∀ k, k < w.heap.size -> k ≠ R -> w'.heap[k]? = w.heap[k]?
theorem ButR.refl (R : Nat) (w : World) : ButR R w w := ⟨rfl, rfl, rfl, Nat.le_refl _, fun _ _ _ => rfl⟩
theorem ButR.trans {R : Nat} {a b c : World} (h : ButR R a b) (k : ButR R b c) : ButR R a c :=
 ⟨k.os.trans h.os, k.tape.trans h.tape, k.output.trans h.output, Nat.le_trans h.size k.size, fun i hi hr => (k.block i (Nat.lt_of_lt_of_le hi h.size) hr).trans (h.block i hi hr)⟩
theorem ButR.of {R : Nat} {w w' : World} (h : Below w.heap.size w w') : ButR R w w' := ⟨h.os, h.tape, h.output, h.size, fun k hk _ => h.block k hk⟩
theorem ButR.then {R : Nat} {a w w' : World} (h : ButR R a w) (hb : Below w.heap.size w w') : ButR R a w' := h.trans (.of hb)
theorem ButR.set {R : Nat} {a w : World} (h : ButR R a w) (i : Nat) (u : Value) : ButR R a (w.setCell ⟨R, i, none⟩ u) :=
 h.trans ⟨rfl, rfl, rfl, by simp [World.setCell], fun k hk hr => Below.heap_setCell _ _ _ _ hr⟩
theorem ButR.drew {R : Nat} {a w : World} (h : ButR R a w) : ButR R a w.drew := ⟨h.os, h.tape, h.output, h.size, h.block⟩
theorem ButR.below {R B : Nat} {w w' : World} (h : ButR R w w') (hB : B <= R) (hR : R < w.heap.size) : Below B w w' := ⟨h.os, h.tape, h.output, h.size, fun k hk => h.block k (by omega) (by omega)⟩
theorem ButR.cellK {R : Nat} {w w' : World} (h : ButR R w w') {p : Addr} (hp : p.block < w.heap.size) (hr : p.block ≠ R) : w'.cell? p = w.cell? p := World.cell?_of_block (w := w) (h.block p.block hp hr)
theorem ButR.frozenK {R : Nat} {w w' : World} (h : ButR R w w') {p : Addr} (hp : p.block < w.heap.size) (hr : p.block ≠ R) : w'.frozen? p = w.frozen? p := World.frozen?_of_block (w := w) (h.block p.block hp hr)
def Box7 (m : Nat) (a0 a1 a2 a3 a4 a5 a6 : Value) (W : World) : Prop :=
 (W.cell? ⟨m, 0, none⟩ = some a0 /\ W.cell? ⟨m, 1, none⟩ = some a1 /\ W.cell? ⟨m, 2, none⟩ = some a2 /\ W.cell? ⟨m, 3, none⟩ = some a3 /\ W.cell? ⟨m, 4, none⟩ = some a4 /\ W.cell? ⟨m, 5, none⟩ = some a5 /\ W.cell? ⟨m, 6, none⟩ = some a6) /\
 (W.frozen? ⟨m, 0, none⟩ = false /\ W.frozen? ⟨m, 1, none⟩ = false /\ W.frozen? ⟨m, 2, none⟩ = false /\ W.frozen? ⟨m, 3, none⟩ = false /\ W.frozen? ⟨m, 4, none⟩ = false /\ W.frozen? ⟨m, 5, none⟩ = false /\ W.frozen? ⟨m, 6, none⟩ = false) /\ m < W.heap.size
theorem Box7.new (W : World) (a0 a1 a2 a3 a4 a5 a6 : Value) (e : TypeId) : Box7 W.heap.size a0 a1 a2 a3 a4 a5 a6 (W.alloc (.cells #[a0, a1, a2, a3, a4, a5, a6] e)) := by
 unfold Box7;refine ⟨⟨?_, ?_, ?_, ?_, ?_, ?_, ?_⟩, ⟨?_, ?_, ?_, ?_, ?_, ?_, ?_⟩, by simp⟩
 all_goals first | (exact (World.cell?_alloc_at _ _ _ _ rfl).trans rfl) | simp [go_sem] | skip
theorem ButR.setNew {R : Nat} {a w : World} (h : ButR R a w) {p : Addr} (hp : a.heap.size <= p.block) (u : Value) : ButR R a (w.setCell p u) :=
 ⟨h.os, h.tape, h.output, by simpa [World.setCell] using h.size, fun k hk hr => (Below.heap_setCell _ _ _ _ (by omega)).trans (h.block k hk hr)⟩
def qD9 (m : Nat) (b0 b1 b2 b3 b4 b5 b6 : Value) (W : World) : World := ((((((W.setCell ⟨m, 0, none⟩ b0).setCell ⟨m, 1, none⟩ b1).setCell ⟨m, 2, none⟩ b2).setCell ⟨m, 3, none⟩ b3).setCell ⟨m, 4, none⟩ b4).setCell ⟨m, 5, none⟩ b5).setCell ⟨m, 6, none⟩ b6
theorem qF4 {B m : Nat} (hm : B <= m) {a W : World} (h : Below B a W) (b0 b1 b2 b3 b4 b5 b6 : Value) : Below B a (qD9 m b0 b1 b2 b3 b4 b5 b6 W) := by
 unfold qD9;exact ((((((h.setCell (p := ⟨m, 0, none⟩) hm _).setCell (p := ⟨m, 1, none⟩) hm _).setCell (p := ⟨m, 2, none⟩) hm _).setCell (p := ⟨m, 3, none⟩) hm _).setCell (p := ⟨m, 4, none⟩) hm _).setCell (p := ⟨m, 5, none⟩) hm _).setCell (p := ⟨m, 6, none⟩) hm _
theorem qGF (m : Nat) (b0 b1 b2 b3 b4 b5 b6 : Value) (W : World) : (qD9 m b0 b1 b2 b3 b4 b5 b6 W).heap.size = W.heap.size := by simp [qD9, World.setCell]
theorem qF8 (m : Nat) (b0 b1 b2 b3 b4 b5 b6 : Value) (W : World) {k : Nat} (h : k ≠ m) : (qD9 m b0 b1 b2 b3 b4 b5 b6 W).heap[k]? = W.heap[k]? := by
 unfold qD9;rw [Below.heap_setCell _ _ _ _ h, Below.heap_setCell _ _ _ _ h, Below.heap_setCell _ _ _ _ h, Below.heap_setCell _ _ _ _ h, Below.heap_setCell _ _ _ _ h, Below.heap_setCell _ _ _ _ h, Below.heap_setCell _ _ _ _ h]
theorem Box7.store {m : Nat} {a0 a1 a2 a3 a4 a5 a6 : Value} {W : World} (h : Box7 m a0 a1 a2 a3 a4 a5 a6 W) (b0 b1 b2 b3 b4 b5 b6 : Value) : Box7 m b0 b1 b2 b3 b4 b5 b6 (qD9 m b0 b1 b2 b3 b4 b5 b6 W) := by
 obtain ⟨⟨h0, h1, h2, h3, h4, h5, h6⟩, ⟨f0, f1, f2, f3, f4, f5, f6⟩, hl⟩ := h;unfold qD9 Box7;refine ⟨⟨?_, ?_, ?_, ?_, ?_, ?_, ?_⟩, ⟨?_, ?_, ?_, ?_, ?_, ?_, ?_⟩, by simpa [World.setCell] using hl⟩
 all_goals simp [go_sem, h0, h1, h2, h3, h4, h5, h6, f0, f1, f2, f3, f4, f5, f6]
theorem Own.butR {α : Type} {enc : α -> List Value} {size base R : Nat} {e : TypeId} {v : Value} {l : List α} {w w' : World} (h : Own enc size base e v l w) (hb : ButR R w w') (hR : R < base) : Own enc size base e v l w' := by
 unfold Own at *;refine ⟨h.1, ?_⟩;rcases h.2 with h2 | ⟨g, cap, cur, hv, hg, hh, r⟩
 ·exact .inl h2
 ·have hl : g < w.heap.size := (Array.getElem?_eq_some_iff.1 hh).1;exact .inr ⟨g, cap, cur, hv, hg, by rw [hb.block g hl (by omega)]; exact hh, r⟩
theorem qA0 {w : World} {a b : Addr} {v : Value} (h : a ≠ b) : (w.setCell a v).cell? b = w.cell? b := World.cell?_setCell_other w a b v h
theorem qAS {w : World} {a : Addr} {v u : Value} (h : w.cell? a = some u) : (w.setCell a v).cell? a = some v := World.cell?_setCell_same w a v h
structure St (w0 : World) (R e : Nat) (ws : List Tok) (n o : Nat) (A : Option Addr) (c : Nat) (W : World) : Prop where
 base : w0.heap.size <= R
 lt : R < W.heap.size
 c0 : W.cell? ⟨R, 0, none⟩ = some (.slice A ws.length c)
 c1 : W.cell? ⟨R, 1, none⟩ = some (.int .i64 (e : Int))
 c2 : W.cell? ⟨R, 2, none⟩ = some (.int .i64 (n : Int))
 c3 : W.cell? ⟨R, 3, none⟩ = some (.int .i64 (o : Int))
 f0 : W.frozen? ⟨R, 0, none⟩ = false
 f2 : W.frozen? ⟨R, 2, none⟩ = false
 f3 : W.frozen? ⟨R, 3, none⟩ = false
 row : Rd qTO 2 R A c ws W
 away : ∀ b off, A = some ⟨b, off, none⟩ -> w0.heap.size + 3 <= b
 old : Below w0.heap.size w0 W
 small : ∀ x ∈ ws, x.2.length <= 10000 /\ x.1 <= 10000
section
variable {w0 W W' : World} {R e : Nat} {ws : List Tok} {n o : Nat} {A : Option Addr} {c : Nat}
theorem St.past (h : St w0 R e ws n o A c W) (hb : Below (R + 1) W W') : St w0 R e ws n o A c W' where
 base := h.base
 lt := Nat.lt_of_lt_of_le h.lt hb.size
 c0 := (hb.cell (p := ⟨R, 0, none⟩) (Nat.lt_succ_self R)).trans h.c0
 c1 := (hb.cell (p := ⟨R, 1, none⟩) (Nat.lt_succ_self R)).trans h.c1
 c2 := (hb.cell (p := ⟨R, 2, none⟩) (Nat.lt_succ_self R)).trans h.c2
 c3 := (hb.cell (p := ⟨R, 3, none⟩) (Nat.lt_succ_self R)).trans h.c3
 f0 := (hb.frozen (p := ⟨R, 0, none⟩) (Nat.lt_succ_self R)).trans h.f0
 f2 := (hb.frozen (p := ⟨R, 2, none⟩) (Nat.lt_succ_self R)).trans h.f2
 f3 := (hb.frozen (p := ⟨R, 3, none⟩) (Nat.lt_succ_self R)).trans h.f3
 row := h.row.below (hb.mono (Nat.le_succ R))
 away := h.away
 old := h.old.trans (hb.mono (Nat.le_succ_of_le h.base))
 small := h.small
theorem St.then (h : St w0 R e ws n o A c W) (hb : Below W.heap.size W W') : St w0 R e ws n o A c W' := h.past (hb.mono h.lt)
theorem St.rowSet (h : St w0 R e ws n o A c W) (i : Nat) (u : Value) : Rd qTO 2 R A c ws (W.setCell ⟨R, i, none⟩ u) := h.row.keep fun p hp => qA0 (fun hh => by rw [<- hh] at hp; exact Nat.lt_irrefl _ hp)
theorem St.oldSet (h : St w0 R e ws n o A c W) (i : Nat) (u : Value) : Below w0.heap.size w0 (W.setCell ⟨R, i, none⟩ u) := h.old.setCell (p := ⟨R, i, none⟩) h.base u
theorem St.take {x : Tok} {b off off' c' : Nat} (h : St w0 R e (x :: ws) n o (some ⟨b, off, none⟩) c W) (hc : c' = c - 1) (ho : ws ≠ [] -> off' = off + 2) : St w0 R e ws n o (some ⟨b, off', none⟩) c' (W.setCell ⟨R, 0, none⟩ (.slice (some ⟨b, off', none⟩) ws.length c')) where
 base := h.base
 lt := by simpa [World.setCell] using h.lt
 c0 := qAS h.c0
 c1 := (qA0 (by simp)).trans h.c1
 c2 := (qA0 (by simp)).trans h.c2
 c3 := (qA0 (by simp)).trans h.c3
 f0 := by rw [World.frozen?_setCell]; exact h.f0
 f2 := by rw [World.frozen?_setCell]; exact h.f2
 f3 := by rw [World.frozen?_setCell]; exact h.f3
 row := by
  have hr := h.rowSet 0 (.slice (some ⟨b, off', none⟩) ws.length c');have h1 := hr.1;have h2 := hr.2.1;simp only [List.length_cons] at h1;refine ⟨by omega, by omega, fun k hk => ?_⟩;have hne : ws ≠ [] := by rintro rfl; simp at hk
  obtain ⟨b', o', e', hb, hc'⟩ := hr.2.2 (k + 1) (by simp; omega);cases e'
  refine ⟨b, off', rfl, hb, fun j u hu => ?_⟩;have := hc' j u (by simpa using hu);rw [show off' + k * 2 + j = off + (k + 1) * 2 + j by have := ho hne; omega];exact this
 away := fun b' o' e' => by cases e'; exact h.away b off rfl
 old := h.oldSet 0 _
 small := fun y hy => h.small y (by simp [hy])
end
