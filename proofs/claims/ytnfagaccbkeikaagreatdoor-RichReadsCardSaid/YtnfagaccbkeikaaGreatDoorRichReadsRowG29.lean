/- RtNext -/
import Derived.Test.YtnfagaccbkeikaaGreatDoorRichReadsRowG15
import Derived.Deep.QuietTactic
import Derived.BigQuiet
/- Walks: the reference's reader: its words, where it stands, how many parts were read; the word that stands there (chandleryref08.reader's next). -/



namespace Go.Proofs.YtnfagaccbkeikaaGreatDoor
open Go.RowKit Go.Shelf
set_option linter.unusedVariables false

structure RS (w0 : World) (R e : Nat) (ws : List Tok) (A : Option Addr) (c q n : Nat) (W : World) : Prop where
  base : w0.heap.size ≤ R
  lt : R < W.heap.size
  c0 : W.cell? ⟨R, 0, none⟩ = some (.slice A ws.length c)
  c1 : W.cell? ⟨R, 1, none⟩ = some (.int .i64 (e : Int))
  c2 : W.cell? ⟨R, 2, none⟩ = some (.int .i64 (q : Int))
  c3 : W.cell? ⟨R, 3, none⟩ = some (.int .i64 (n : Int))
  f2 : W.frozen? ⟨R, 2, none⟩ = false
  f3 : W.frozen? ⟨R, 3, none⟩ = false
  row : Rd encTok 2 R A c ws W
  old : Below w0.heap.size w0 W
  small : ∀ x ∈ ws, x.2.length ≤ 10000 ∧ x.1 ≤ 10000
  len : ws.length ≤ 10000
  le : q ≤ ws.length
section
variable {w0 W W' : World} {R e : Nat} {ws : List Tok} {q n : Nat} {A : Option Addr} {c : Nat}
theorem RS.past (h : RS w0 R e ws A c q n W) (hb : Below (R + 1) W W') : RS w0 R e ws A c q n W' where
  base := h.base
  lt := Nat.lt_of_lt_of_le h.lt hb.size
  c0 := (hb.cell (p := ⟨R, 0, none⟩) (Nat.lt_succ_self R)).trans h.c0
  c1 := (hb.cell (p := ⟨R, 1, none⟩) (Nat.lt_succ_self R)).trans h.c1
  c2 := (hb.cell (p := ⟨R, 2, none⟩) (Nat.lt_succ_self R)).trans h.c2
  c3 := (hb.cell (p := ⟨R, 3, none⟩) (Nat.lt_succ_self R)).trans h.c3
  f2 := (hb.frozen (p := ⟨R, 2, none⟩) (Nat.lt_succ_self R)).trans h.f2
  f3 := (hb.frozen (p := ⟨R, 3, none⟩) (Nat.lt_succ_self R)).trans h.f3
  row := h.row.below (hb.mono (Nat.le_succ R))
  old := h.old.trans (hb.mono (Nat.le_succ_of_le h.base))
  small := h.small
  len := h.len
  le := h.le
theorem RS.then (h : RS w0 R e ws A c q n W) (hb : Below W.heap.size W W') : RS w0 R e ws A c q n W' := h.past (hb.mono h.lt)
theorem RS.rowSet (h : RS w0 R e ws A c q n W) (i : Nat) (u : Value) : Rd encTok 2 R A c ws (W.setCell ⟨R, i, none⟩ u) := h.row.keep fun p hp => sc_other (fun hh => by rw [← hh] at hp; exact Nat.lt_irrefl _ hp)
theorem RS.setAt (h : RS w0 R e ws A c q n W) (q' : Nat) (hq : q' ≤ ws.length) : RS w0 R e ws A c q' n (W.setCell ⟨R, 2, none⟩ (.int .i64 (q' : Int))) where
  base := h.base
  lt := by simpa [World.setCell] using h.lt
  c0 := (sc_other (by simp)).trans h.c0
  c1 := (sc_other (by simp)).trans h.c1
  c2 := sc_same h.c2
  c3 := (sc_other (by simp)).trans h.c3
  f2 := by rw [World.frozen?_setCell]; exact h.f2
  f3 := by rw [World.frozen?_setCell]; exact h.f3
  row := h.rowSet 2 _
  old := h.old.setCell (p := ⟨R, 2, none⟩) h.base _
  small := h.small
  len := h.len
  le := hq
theorem RS.setN (h : RS w0 R e ws A c q n W) (n' : Nat) : RS w0 R e ws A c q n' (W.setCell ⟨R, 3, none⟩ (.int .i64 (n' : Int))) where
  base := h.base
  lt := by simpa [World.setCell] using h.lt
  c0 := (sc_other (by simp)).trans h.c0
  c1 := (sc_other (by simp)).trans h.c1
  c2 := (sc_other (by simp)).trans h.c2
  c3 := sc_same h.c3
  f2 := by rw [World.frozen?_setCell]; exact h.f2
  f3 := by rw [World.frozen?_setCell]; exact h.f3
  row := h.rowSet 3 _
  old := h.old.setCell (p := ⟨R, 3, none⟩) h.base _
  small := h.small
  len := h.len
  le := h.le
end
theorem drop_cons {α : Type} {l : List α} {q : Nat} {x : α} {r : List α} (h : l.drop q = x :: r) : ∃ hq : q < l.length, l[q] = x ∧ l.drop (q + 1) = r := by
  have hq : q < l.length := by
    refine Nat.lt_of_not_le fun hn => ?_
    rw [List.drop_of_length_le hn] at h
    cases h
  rw [List.drop_eq_getElem_cons hq] at h
  cases h
  exact ⟨hq, rfl, rfl⟩
theorem drop_nil_iff {α : Type} {l : List α} {q : Nat} (h : l.drop q = []) : l.length ≤ q := by
  have := congrArg List.length h
  rw [List.length_drop] at this
  simp at this
  omega
set_option maxRecDepth 100000 in
set_option maxHeartbeats 4000000 in
theorem rtnext_any {w0 : World} {R e : Nat} {ws : List Tok} {q n : Nat} {A : Option Addr} {c : Nat} (W : World) (h : RS w0 R e ws A c q n W) : Calls Tryz.prog 90 #[.pointer (some ⟨R, 0, none⟩)] W fun en w' => en = .returned (.tuple #[.string (bs (atT (ws.drop q))), .int .i64 (atPl e (ws.drop q) : Int)]) ∧ Below W.heap.size W w' := by
  have c0 := h.c0
  have c1 := h.c1
  have c2 := h.c2
  have hlen := h.len
  have hle := h.le
  have hR := h.lt
  have HROW := Lib.hid h.row
  have q0 : (0 : Int) ≤ (q : Int) := by omega
  have q1 : (q : Int) ≤ 10000 := by omega
  obtain ⟨m, hm⟩ : ∃ m, m = ws.length := ⟨_, rfl⟩
  cases hd : ws.drop q with
  | nil =>
    have hq := drop_nil_iff hd
    have h1 : (m : Int) ≤ (q : Int) := by omega
    rw [← hm] at c0
    clear h hd hq hle hm hlen
    go_enter Tryz.func90, Tryz.ntmps90
    go_wp2_with fail
    go_quiet (fail)
    go_wp2_with fail
    go_quiet (fail)
    go_wp2_with fail
    go_ret2
    exact ⟨rfl, Go.below_drewN (Go.below_drewN (Below.refl _ _) _) _⟩
  | cons x r =>
    obtain ⟨hq, hx, hr⟩ := drop_cons hd
    obtain ⟨b, off, hA, hb, h0, h1⟩ := h.row.at2 (f := fun x : Tok => .string (bs x.2)) (g := fun x : Tok => .int .i64 (x.1 : Int)) (fun _ => rfl) hq
    rw [hx] at h0 h1
    have i1 : (q : Int) < (m : Int) := by omega
    have i2 : ¬ (m : Int) ≤ (q : Int) := by omega
    rw [← hm, hA] at c0
    have HD := Lib.hid hd
    obtain ⟨s, hs⟩ : ∃ s, s = bs x.2 := ⟨_, rfl⟩
    obtain ⟨pl, hpl⟩ : ∃ pl, pl = x.1 := ⟨_, rfl⟩
    show Calls Tryz.prog 90 #[.pointer (some ⟨R, 0, none⟩)] W fun en w' => en = .returned (.tuple #[.string (bs x.2), .int .i64 (x.1 : Int)]) ∧ Below W.heap.size W w'
    rw [← hs, ← hpl]
    rw [← hs] at h0
    rw [← hpl] at h1
    clear h hd hq hx hr hle hm hlen hA hs hpl
    go_enter Tryz.func90, Tryz.ntmps90
    go_wp2_with fail
    go_quiet (fail)
    go_wp2_with fail
    go_quiet (fail)
    go_wp2_with fail
    go_ret2
    exact ⟨rfl, Go.below_drewN (Go.below_drewN (Below.refl _ _) _) _⟩
end Go.Proofs.YtnfagaccbkeikaaGreatDoor
