/- RichTake -/
import Derived.Test.YtnfagaccbkeikaaGreatDoorRichReadsRowG15
import Derived.Deep.QuietTactic
import Derived.BigQuiet
/- Walks: the reader's word that stands there, and taking it (rich.reader's at, take). -/



namespace Go.Proofs.YtnfagaccbkeikaaGreatDoor
open Go.RowKit Go.Shelf
set_option linter.unusedVariables false

set_option maxRecDepth 100000 in
set_option maxHeartbeats 4000000 in
theorem rat_any {w0 : World} {R e : Nat} {ws : List Tok} {n o : Nat} {A : Option Addr} {c : Nat} (W : World) (h : St w0 R e ws n o A c W) : Calls Tryz.prog 49 #[.pointer (some ⟨R, 0, none⟩)] W fun en w' => en = .returned (.tuple #[.string (bs (atT ws)), .int .i64 (atPl e ws : Int)]) ∧ ButR R W w' ∧ St w0 R e ws n o A c w' := by
  have c0 := h.c0
  have c1 := h.c1
  have H := Lib.hid h
  cases ws with
  | nil =>
    simp only [List.length_nil] at c0
    clear h
    go_enter Tryz.func49, Tryz.ntmps49
    go_wp2_with fail
    go_quiet (fail)
    go_wp2_with fail
    go_ret2
    exact ⟨rfl, .of (Go.below_drewN (Below.refl _ _) _), H.out.then (Go.below_drewN (Below.refl _ _) _)⟩
  | cons x ws =>
    obtain ⟨b, off, rfl, hb, h0, h1⟩ := h.head
    obtain ⟨m, hm⟩ : ∃ m, m = (x :: ws).length := ⟨_, rfl⟩
    have m0 : (0 : Int) < (m : Int) := by rw [hm]; simp only [List.length_cons]; omega
    have m1 : ((m : Int) == 0) = false := by simp only [beq_eq_false_iff_ne]; omega
    rw [← hm] at c0
    have HM := Lib.hid hm
    clear h hm
    go_enter Tryz.func49, Tryz.ntmps49
    go_wp2_with fail
    go_quiet (fail)
    go_wp2_with fail
    go_ret2
    exact ⟨rfl, .of (Go.below_drewN (Below.refl _ _) _), H.out.then (Go.below_drewN (Below.refl _ _) _)⟩
set_option maxRecDepth 100000 in
set_option maxHeartbeats 4000000 in
theorem rtake_nil {w0 : World} {R e : Nat} {n o : Nat} {A : Option Addr} {c : Nat} (W : World) (h : St w0 R e [] n o A c W) : Calls Tryz.prog 131 #[.pointer (some ⟨R, 0, none⟩)] W fun en w' => en = .returned (.tuple #[.string ⟨#[]⟩, .bool false]) ∧ ButR R W w' ∧ St w0 R e [] n o A c w' := by
  have c0 := h.c0
  have H := Lib.hid h
  simp only [List.length_nil] at c0
  clear h
  go_enter Tryz.func131, Tryz.ntmps131
  go_wp2_with fail
  go_ret2
  exact ⟨rfl, .refl _ _, H.out⟩
set_option maxRecDepth 100000 in
set_option maxHeartbeats 4000000 in
theorem rtake_cons {w0 : World} {R e : Nat} {x : Tok} {ws : List Tok} {n o : Nat} {A : Option Addr} {c : Nat} (W : World) (h : St w0 R e (x :: ws) n o A c W) : Calls Tryz.prog 131 #[.pointer (some ⟨R, 0, none⟩)] W fun en w' => en = .returned (.tuple #[.string (bs x.2), .bool true]) ∧ ButR R W w' ∧ ∃ A c, St w0 R e ws n o A c w' := by
  have c0 := h.c0
  have f0 := h.f0
  have H := Lib.hid h
  obtain ⟨b, off, rfl, hb, h0, h1⟩ := h.head
  have hcap := h.row.1
  have hmax := h.row.2.1
  obtain ⟨m, hm⟩ : ∃ m, m = ws.length := ⟨_, rfl⟩
  simp only [List.length_cons] at hcap c0
  rw [← hm] at hcap c0
  obtain ⟨k, hk⟩ : ∃ k, k = m + 1 := ⟨_, rfl⟩
  rw [← hk] at hcap c0
  unfold maxLen at hmax
  have m0 : (0 : Int) < (k : Int) := by omega
  have m1 : ((k : Int) == 0) = false := by simp only [beq_eq_false_iff_ne]; omega
  have m2 : (1 : Int) ≤ (k : Int) := by omega
  have m3 : (k : Int) ≤ (c : Int) := by omega
  have HM := Lib.hid hm
  have HK := Lib.hid hk
  clear h hm hk
  by_cases hc : c = 1
  · subst hc
    obtain rfl : k = 1 := by omega
    go_enter Tryz.func131, Tryz.ntmps131
    go_wp2_with fail
    go_ret2
    have e0 : ws.length = 0 := by have := HM.out; have := HK.out; omega
    have hT := H.out.take (off' := off) (c' := 0) rfl (fun h => absurd (List.eq_nil_of_length_eq_zero e0) h)
    rw [e0] at hT
    exact ⟨rfl, (ButR.refl _ _).set 0 _, _, _, hT⟩
  · go_enter Tryz.func131, Tryz.ntmps131
    go_wp2_with fail
    go_ret2
    refine ⟨rfl, (ButR.refl _ _).set 0 _, ?_⟩
    have e1 : k - 1 = ws.length := by have := HM.out; have := HK.out; omega
    have hT := H.out.take (off' := off + 2) (c' := c - 1) rfl (fun _ => rfl)
    rw [e1]
    exact ⟨_, _, hT⟩
end Go.Proofs.YtnfagaccbkeikaaGreatDoor
