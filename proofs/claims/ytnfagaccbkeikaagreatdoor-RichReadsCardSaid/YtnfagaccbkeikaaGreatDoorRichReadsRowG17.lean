/- RichPart -/
import Derived.Test.YtnfagaccbkeikaaGreatDoorRichReadsRowG16
/- Walks: a part is read (rich.reader's part), its plain form and its bracket being known. -/

namespace Go.Proofs.YtnfagaccbkeikaaGreatDoor
open Go.RowKit Go.Shelf
set_option linter.unusedVariables false

def PlainSays (w0 : World) (R e o : Nat) : Prop := ∀ (x : Tok) (ws : List Tok) (n : Nat) (A : Option Addr) (c : Nat) (W : World), St w0 R e (x :: ws) (n + 1) o A c W → Calls Tryz.prog 87 #[.pointer (some ⟨R, 0, none⟩), .int .i64 (x.1 : Int)] W (PartPost w0 R e o W (plainP e (x :: ws) n))
def BracketSays (w0 : World) (R e o d : Nat) : Prop := ∀ (x : Tok) (ws : List Tok) (n : Nat) (A : Option Addr) (c : Nat) (W : World) (p : Int), n + 1 ≤ 24 → St w0 R e (x :: ws) (n + 1) o A c W → Calls Tryz.prog 88 #[.pointer (some ⟨R, 0, none⟩), .int .i64 p] W (PartPost w0 R e o W (bracketP e (partP e d) ws (n + 1)))
def PartSays (w0 : World) (R e o d : Nat) : Prop := ∀ (ws : List Tok) (n : Nat) (A : Option Addr) (c : Nat) (W : World), n ≤ 24 → St w0 R e ws n o A c W → Calls Tryz.prog 48 #[.pointer (some ⟨R, 0, none⟩)] W (PartPost w0 R e o W (partP e d ws n))
theorem partP_stop {e d : Nat} {ws : List Tok} {n : Nat} {r : PR} (h : headP e (d == 0) ws n = some r) : partP e d ws n = r := by
  cases d with
  | zero => unfold partP; simp only [beq_self_eq_true] at h; rw [h]
  | succ d => unfold partP; simp only [show (d + 1 == 0) = false from rfl] at h; rw [h]
theorem partP_plain {e d : Nat} {ws : List Tok} {n : Nat} (h : headP e (d == 0) ws n = none) (hb : atT ws ≠ [40]) : partP e d ws n = plainP e ws n := by
  cases d with
  | zero => unfold partP; simp only [beq_self_eq_true] at h; rw [h]
  | succ d => unfold partP; simp only [show (d + 1 == 0) = false from rfl] at h; rw [h]; dsimp only; rw [if_neg hb]
theorem partP_bracket {e d : Nat} {ws : List Tok} {n : Nat} (h : headP e false ws n = none) (hb : atT ws = [40]) : partP e (d + 1) ws n = bracketP e (partP e d) ws.tail (n + 1) := by
  unfold partP; rw [h]; dsimp only; rw [if_pos hb]
theorem PartPost.stop {w0 : World} {R e o : Nat} {w w' : World} {p : Nat} {x : Int} {r : PR} (h : r = .stop p x) (hb : ButR R w w') : PartPost w0 R e o w r (stopV p x) w' := by subst h; exact ⟨hb, rfl⟩
theorem part_stops {e d : Nat} {ws : List Tok} {n : Nat} {x : Int} (h : headP e (d == 0) ws n = some (.stop (atPl e ws) x)) : partP e d ws n = .stop (atPl e ws) x := partP_stop h
theorem head_a {e : Nat} {l : Bool} {ws : List Tok} {n : Nat} (h : atT ws = [] ∨ atT ws = [41]) : headP e l ws n = some (.stop (atPl e ws) 4) := by unfold headP; rw [if_pos h]
theorem head_b {e : Nat} {ws : List Tok} {n : Nat} (h : atT ws = [40]) : headP e true ws n = some (.stop (atPl e ws) 21) := by
  unfold headP; rw [if_neg (by rw [h]; decide), if_pos ⟨h, rfl⟩]
theorem head_c {e : Nat} {l : Bool} {ws : List Tok} {n : Nat} (h : ¬ (atT ws = [] ∨ atT ws = [41])) (h2 : ¬ (atT ws = [40] ∧ l = true)) (hn : n = 24) : headP e l ws n = some (.stop (atPl e ws) 40) := by
  unfold headP; rw [if_neg h, if_neg h2, if_pos hn]
theorem head_d {e : Nat} {l : Bool} {ws : List Tok} {n : Nat} (h : ¬ (atT ws = [] ∨ atT ws = [41])) (h2 : ¬ (atT ws = [40] ∧ l = true)) (hn : n ≠ 24) : headP e l ws n = none := by
  unfold headP; rw [if_neg h, if_neg h2, if_neg hn]
set_option maxRecDepth 100000 in
set_option maxHeartbeats 16000000 in
theorem rpart_of {w0 : World} {R e o d : Nat} (hd : d + o = 8) (hp : PlainSays w0 R e o) (hb : ∀ d', d = d' + 1 → BracketSays w0 R e o d') : PartSays w0 R e o d := by
  intro ws n A c W hn h
  have hmf : ∀ (fn : Fn) (first cap : Array Value) (w : World), (Instr.makeFunc fn first cap).run Tryz.prog w = .ok (.func fn first cap) w := fun _ _ _ _ => rfl
  have H := Lib.hid h
  have HP := Lib.hid hp
  have HB := Lib.hid hb
  obtain ⟨s, hs⟩ : ∃ s, s = bs (atT ws) := ⟨_, rfl⟩
  have hsl : s.toList = atT ws := by rw [hs, bs_toList]
  have HS := Lib.hid hsl
  obtain ⟨pl, hpl⟩ : ∃ pl, pl = atPl e ws := ⟨_, rfl⟩
  have HPL := Lib.hid hpl
  have hat := Lib.hid (rat_any (w0 := w0) (R := R) (e := e) (ws := ws) (n := n) (o := o) (A := A) (c := c))
  rw [← hs, ← hpl] at hat
  have hR := h.lt
  have HD := Lib.hid hd
  have HN := Lib.hid hn
  by_cases q1 : atT ws = [] ∨ atT ws = [41]
  · have hr := Lib.hid (part_stops (d := d) (head_a (e := e) (l := d == 0) (n := n) q1))
    rw [← hpl] at hr
    have f1 : s.toList.isEmpty = true ∨ (s.toList.isEmpty = false ∧ (s.toList == [41]) = true) := by
      rw [hsl]
      rcases q1 with q | q <;> rw [q] <;> decide
    clear h hp hb hs hpl hsl q1 hd hn
    rcases f1 with f1 | ⟨f1, f2⟩
    all_goals
      go_enter Tryz.func48, Tryz.ntmps48
      go_wp2_with fail
      go_at_call 49
      refine (hat.out _ (H.out.then ((Below.refl _ _).alloc (Nat.le_refl _) _))).mono ?_
      rintro en w1 ⟨rfl, hB1, S1⟩
      go_wp2_with fail
      exact ⟨rfl, PartPost.stop hr.out (((ButR.refl _ _).alloc _).trans hB1)⟩
  · have f0 : s.toList.isEmpty = false := by
      rw [hsl]; cases he : (atT ws).isEmpty with
      | false => rfl
      | true => exact absurd (.inl (List.isEmpty_iff.1 he)) q1
    have f1 : (s.toList == [41]) = false := by
      rw [hsl]; simp only [beq_eq_false_iff_ne]; exact fun he => q1 (.inr he)
    by_cases q2 : atT ws = [40]
    · have f2 : (s.toList == [40]) = true := by rw [hsl, q2]; decide
      by_cases q3 : d = 0
      · subst q3
        have hr := Lib.hid (part_stops (d := 0) (head_b (e := e) (n := n) q2))
        rw [← hpl] at hr
        obtain rfl : o = 8 := by omega
        clear h hp hb hs hpl hsl q1 q2 hd hn
        go_enter Tryz.func48, Tryz.ntmps48
        go_wp2_with fail
        go_at_call 49
        refine (hat.out _ (H.out.then ((Below.refl _ _).alloc (Nat.le_refl _) _))).mono ?_
        rintro en w1 ⟨rfl, hB1, S1⟩
        have c3 := S1.c3
        go_wp2_with fail
        exact ⟨rfl, PartPost.stop hr.out (((ButR.refl _ _).alloc _).trans hB1)⟩
      · have f3 : ((o : Int) == 8) = false := by simp only [beq_eq_false_iff_ne]; omega
        have ql : ¬ (atT ws = [40] ∧ (d == 0) = true) := by rintro ⟨_, h0⟩; exact q3 (by simpa using h0)
        by_cases q4 : n = 24
        · have hr := Lib.hid (part_stops (d := d) (head_c (e := e) q1 ql q4))
          rw [← hpl] at hr
          have f4 : ((n : Int) == 24) = true := by simp only [beq_iff_eq]; omega
          clear h hp hb hs hpl hsl q1 q2 q3 q4 hd hn ql
          go_enter Tryz.func48, Tryz.ntmps48
          go_wp2_with fail
          go_at_call 49
          refine (hat.out _ (H.out.then ((Below.refl _ _).alloc (Nat.le_refl _) _))).mono ?_
          rintro en w1 ⟨rfl, hB1, S1⟩
          have c3 := S1.c3
          have c2 := S1.c2
          go_wp2_with fail
          exact ⟨rfl, PartPost.stop hr.out (((ButR.refl _ _).alloc _).trans hB1)⟩
        · have f4 : ((n : Int) == 24) = false := by simp only [beq_eq_false_iff_ne]; omega
          obtain ⟨d', rfl⟩ : ∃ d', d = d' + 1 := ⟨d - 1, by omega⟩
          have hr := Lib.hid (partP_bracket (e := e) (d := d') (ws := ws) (n := n) (head_d q1 ql q4) q2)
          obtain ⟨x, ws', rfl⟩ : ∃ x ws', ws = x :: ws' := by
            cases ws with
            | nil => cases q2
            | cons x ws' => exact ⟨x, ws', rfl⟩
          have g1 : (n : Int) ≤ 24 := by omega
          have g2 : n + 1 ≤ 24 := by omega
          have HQ := Lib.hid g2
          clear h hp hb hs hpl hsl q1 q2 q3 q4 hd hn ql g2
          go_enter Tryz.func48, Tryz.ntmps48
          go_wp2_with fail
          go_at_call 49
          refine (hat.out _ (H.out.then ((Below.refl _ _).alloc (Nat.le_refl _) _))).mono ?_
          rintro en w1 ⟨rfl, hB1, S1⟩
          have c3 := S1.c3
          have c2 := S1.c2
          have f2' := S1.f2
          go_wp2_with fail
          have S2 := S1.setParts (n + 1)
          rw [show ((n + 1 : Nat) : Int) = (n : Int) + 1 by omega] at S2
          have X2 := ((Box7.new W _ _ _ _ _ _ _ _).butR hB1 (by omega)).butR ((ButR.refl R w1).set 2 (.int .i64 ((n : Int) + 1))) (by omega)
          refine (HB.out d' rfl x ws' n _ _ _ _ HQ.out S2).mono ?_
          rintro en w2 ⟨hB2, hP⟩
          have hBB := (((ButR.refl R W).alloc _).trans hB1).set 2 (.int .i64 ((n : Int) + 1))
          have hB3 := hBB.trans hB2
          have X3 := X2.butR hB2 (by omega)
          rw [show (x :: ws').tail = ws' from rfl] at hr
          generalize bracketP e (partP e d') ws' (n + 1) = res at *
          clear S1 S2 c2 c3 f2' X2
          cases res with
          | stop p x =>
            simp only at hP
            subst hP
            unfold stopV
            go_wp2_with fail
            exact ⟨rfl, PartPost.stop hr.out hB3⟩
          | ok t rs m =>
            obtain ⟨rv, hrt, rfl, hT, A', c', S3⟩ := hP
            obtain ⟨⟨h0, h1, h2, h3, h4, h5, h6⟩, ⟨k0, k1, k2, k3, k4, k5, k6⟩, hl⟩ := X3
            unfold RV.val
            go_wp2_with fail
            have hsz1 := hB1.size
            have hsz := hB2.size
            simp only [World.setCell, Array.size_modify, World.size_alloc] at hsz hsz1 hT
            refine bodyPost_ret (v := rv.val) (by unfold RV.val; simp [results, Tryz.results48, go_sem, h0, h1, h2, h3, h4, h5, h6]) rfl ?_
            rw [hr.out]
            exact ⟨store7_but (Nat.le_refl _) hB3 _ _ _ _ _ _ _, rv, hrt, rfl, hT.store (by omega) (by omega) _ _ _ _ _ _ _, A', c', S3.past (store7_below (by omega) (Below.refl _ _) _ _ _ _ _ _ _)⟩
    · have f2 : (s.toList == [40]) = false := by rw [hsl]; simp only [beq_eq_false_iff_ne]; exact q2
      have ql : ¬ (atT ws = [40] ∧ (d == 0) = true) := fun hh => q2 hh.1
      by_cases q4 : n = 24
      · have hr := Lib.hid (part_stops (d := d) (head_c (e := e) q1 ql q4))
        rw [← hpl] at hr
        have f4 : ((n : Int) == 24) = true := by simp only [beq_iff_eq]; omega
        clear h hp hb hs hpl hsl q1 q2 q4 hd hn ql
        go_enter Tryz.func48, Tryz.ntmps48
        go_wp2_with fail
        go_at_call 49
        refine (hat.out _ (H.out.then ((Below.refl _ _).alloc (Nat.le_refl _) _))).mono ?_
        rintro en w1 ⟨rfl, hB1, S1⟩
        have c3 := S1.c3
        have c2 := S1.c2
        have f2' := S1.f2
        go_wp2_with fail
        exact ⟨rfl, PartPost.stop hr.out (((ButR.refl _ _).alloc _).trans hB1)⟩
      · have f4 : ((n : Int) == 24) = false := by simp only [beq_eq_false_iff_ne]; omega
        have hr := Lib.hid (partP_plain (e := e) (d := d) (ws := ws) (n := n) (head_d q1 ql q4) q2)
        have g1 : (n : Int) ≤ 24 := by omega
        obtain ⟨x, ws', rfl⟩ : ∃ x ws', ws = x :: ws' := by
          cases ws with
          | nil => exact absurd (.inl rfl) q1
          | cons x ws' => exact ⟨x, ws', rfl⟩
        have hx1 := Lib.hid (show pl = x.1 from hpl)
        clear h hp hb hs hpl hsl q1 q2 q4 hd hn ql
        go_enter Tryz.func48, Tryz.ntmps48
        go_wp2_with fail
        go_at_call 49
        refine (hat.out _ (H.out.then ((Below.refl _ _).alloc (Nat.le_refl _) _))).mono ?_
        rintro en w1 ⟨rfl, hB1, S1⟩
        have c3 := S1.c3
        have c2 := S1.c2
        have f2' := S1.f2
        go_wp2_with fail
        have S2 := S1.setParts (n + 1)
        rw [show ((n + 1 : Nat) : Int) = (n : Int) + 1 by omega] at S2
        have X2 := ((Box7.new W _ _ _ _ _ _ _ _).butR hB1 (by omega)).butR ((ButR.refl R w1).set 2 (.int .i64 ((n : Int) + 1))) (by omega)
        have hq := HP.out x ws' n _ _ _ S2
        rw [← hx1.out] at hq
        refine hq.mono ?_
        rintro en w2 ⟨hB2, hP⟩
        have hBB := (((ButR.refl R W).alloc _).trans hB1).set 2 (.int .i64 ((n : Int) + 1))
        have hB3 := hBB.trans hB2
        have X3 := X2.butR hB2 (by omega)
        clear hq
        generalize plainP e (x :: ws') n = res at *
        clear S1 S2 c2 c3 f2' X2
        cases res with
        | stop p x =>
          simp only at hP
          subst hP
          unfold stopV
          go_wp2_with fail
          exact ⟨rfl, PartPost.stop hr.out hB3⟩
        | ok t rs m =>
          obtain ⟨rv, hrt, rfl, hT, A', c', S3⟩ := hP
          obtain ⟨⟨h0, h1, h2, h3, h4, h5, h6⟩, ⟨k0, k1, k2, k3, k4, k5, k6⟩, hl⟩ := X3
          unfold RV.val
          go_wp2_with fail
          have hsz1 := hB1.size
          have hsz := hB2.size
          simp only [World.setCell, Array.size_modify, World.size_alloc] at hsz hsz1 hT
          refine bodyPost_ret (v := rv.val) (by unfold RV.val; simp [results, Tryz.results48, go_sem, h0, h1, h2, h3, h4, h5, h6]) rfl ?_
          rw [hr.out]
          exact ⟨store7_but (Nat.le_refl _) hB3 _ _ _ _ _ _ _, rv, hrt, rfl, hT.store (by omega) (by omega) _ _ _ _ _ _ _, A', c', S3.past (store7_below (by omega) (Below.refl _ _) _ _ _ _ _ _ _)⟩
end Go.Proofs.YtnfagaccbkeikaaGreatDoor
