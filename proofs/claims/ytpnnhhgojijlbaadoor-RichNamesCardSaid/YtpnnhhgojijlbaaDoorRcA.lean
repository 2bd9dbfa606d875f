/- joined: RichTake, RichPart, RichAtom, RichBetween -/
import Derived.Test.YtpnnhhgojijlbaaDoorRichMem
import Derived.Deep.QuietTactic
import Derived.BigQuiet
import Derived.Test.YtpnnhhgojijlbaaDoorRlJoin
import Derived.Test.YtpnnhhgojijlbaaDoorDpZ
import Derived.Maps.AppendAt
namespace Go.Proofs.YtpnnhhgojijlbaaDoor
open Go.RowKit Go.Shelf
set_option linter.unusedVariables false
/- Walks: the reader's word that stands there, and taking it (rich.reader's at, take). -/

set_option maxRecDepth 100000 in
set_option maxHeartbeats 4000000 in
theorem rat_any {w0 : World} {R e : Nat} {ws : List Tok} {n o : Nat} {A : Option Addr} {c : Nat} (W : World) (h : St w0 R e ws n o A c W) : Calls Tryd.prog 27 #[.pointer (some ⟨R, 0, none⟩)] W fun en w' => en = .returned (.tuple #[.string (bs (atT ws)), .int .i64 (atPl e ws : Int)]) ∧ ButR R W w' ∧ St w0 R e ws n o A c w' := by
  have c0 := h.c0
  have c1 := h.c1
  have H := Lib.hid h
  cases ws with
  | nil =>
    simp only [List.length_nil] at c0
    clear h
    go_enter Tryd.func27, Tryd.ntmps27
    go_wp2_with fail
    go_quiet (fail)
    go_wp2_with fail
    go_ret2
    exact ⟨rfl, .of (Go.below_drewN (Below.refl _ _) _), H.out.then (Go.below_drewN (Below.refl _ _) _)⟩
  | cons x ws =>
    obtain ⟨b, off, rfl, hb, h0, h1⟩ := h.head
    obtain ⟨m, hm⟩ : ∃ m, m = (x :: ws).length := ⟨_, rfl⟩
    have m0 : (0 : Int) < (m : Int) := by rw [hm]; simp only [List.length_cons]; omega
    have m1 : ((m : Int) == 0) = false := by simp only [beq_eq_false_iff_ne]; omega
    rw [← hm] at c0
    have HM := Lib.hid hm
    clear h hm
    go_enter Tryd.func27, Tryd.ntmps27
    go_wp2_with fail
    go_quiet (fail)
    go_wp2_with fail
    go_ret2
    exact ⟨rfl, .of (Go.below_drewN (Below.refl _ _) _), H.out.then (Go.below_drewN (Below.refl _ _) _)⟩
set_option maxRecDepth 100000 in
set_option maxHeartbeats 4000000 in
theorem rtake_nil {w0 : World} {R e : Nat} {n o : Nat} {A : Option Addr} {c : Nat} (W : World) (h : St w0 R e [] n o A c W) : Calls Tryd.prog 84 #[.pointer (some ⟨R, 0, none⟩)] W fun en w' => en = .returned (.tuple #[.string ⟨#[]⟩, .bool false]) ∧ ButR R W w' ∧ St w0 R e [] n o A c w' := by
  have c0 := h.c0
  have H := Lib.hid h
  simp only [List.length_nil] at c0
  clear h
  go_enter Tryd.func84, Tryd.ntmps84
  go_wp2_with fail
  go_ret2
  exact ⟨rfl, .refl _ _, H.out⟩
set_option maxRecDepth 100000 in
set_option maxHeartbeats 4000000 in
theorem rtake_cons {w0 : World} {R e : Nat} {x : Tok} {ws : List Tok} {n o : Nat} {A : Option Addr} {c : Nat} (W : World) (h : St w0 R e (x :: ws) n o A c W) : Calls Tryd.prog 84 #[.pointer (some ⟨R, 0, none⟩)] W fun en w' => en = .returned (.tuple #[.string (bs x.2), .bool true]) ∧ ButR R W w' ∧ ∃ A c, St w0 R e ws n o A c w' := by
  have c0 := h.c0
  have f0 := h.f0
  have H := Lib.hid h
  obtain ⟨b, off, rfl, hb, h0, h1⟩ := h.head
  have hcap := h.row.1
  have hmax := h.row.2.1
  obtain ⟨m, hm⟩ : ∃ m, m = ws.length := ⟨_, rfl⟩
  simp only [List.length_cons] at hcap c0
  rw [← hm] at hcap c0
  obtain ⟨k, hk⟩ : ∃ k, k = m + 1 := ⟨_, rfl⟩
  rw [← hk] at hcap c0
  unfold maxLen at hmax
  have m0 : (0 : Int) < (k : Int) := by omega
  have m1 : ((k : Int) == 0) = false := by simp only [beq_eq_false_iff_ne]; omega
  have m2 : (1 : Int) ≤ (k : Int) := by omega
  have m3 : (k : Int) ≤ (c : Int) := by omega
  have HM := Lib.hid hm
  have HK := Lib.hid hk
  clear h hm hk
  by_cases hc : c = 1
  · subst hc
    obtain rfl : k = 1 := by omega
    go_enter Tryd.func84, Tryd.ntmps84
    go_wp2_with fail
    go_ret2
    have e0 : ws.length = 0 := by have := HM.out; have := HK.out; omega
    have hT := H.out.take (off' := off) (c' := 0) rfl (fun h => absurd (List.eq_nil_of_length_eq_zero e0) h)
    rw [e0] at hT
    exact ⟨rfl, (ButR.refl _ _).set 0 _, _, _, hT⟩
  · go_enter Tryd.func84, Tryd.ntmps84
    go_wp2_with fail
    go_ret2
    refine ⟨rfl, (ButR.refl _ _).set 0 _, ?_⟩
    have e1 : k - 1 = ws.length := by have := HM.out; have := HK.out; omega
    have hT := H.out.take (off' := off + 2) (c' := c - 1) rfl (fun _ => rfl)
    rw [e1]
    exact ⟨_, _, hT⟩

/- Walks: a part is read (rich.reader's part), its plain form and its bracket being known. -/

def PlainSays (w0 : World) (R e o : Nat) : Prop := ∀ (x : Tok) (ws : List Tok) (n : Nat) (A : Option Addr) (c : Nat) (W : World), St w0 R e (x :: ws) (n + 1) o A c W → Calls Tryd.prog 52 #[.pointer (some ⟨R, 0, none⟩), .int .i64 (x.1 : Int)] W (PartPost w0 R e o W (plainP e (x :: ws) n))
def BracketSays (w0 : World) (R e o d : Nat) : Prop := ∀ (x : Tok) (ws : List Tok) (n : Nat) (A : Option Addr) (c : Nat) (W : World) (p : Int), n + 1 ≤ 24 → St w0 R e (x :: ws) (n + 1) o A c W → Calls Tryd.prog 53 #[.pointer (some ⟨R, 0, none⟩), .int .i64 p] W (PartPost w0 R e o W (bracketP e (partP e d) ws (n + 1)))
def PartSays (w0 : World) (R e o d : Nat) : Prop := ∀ (ws : List Tok) (n : Nat) (A : Option Addr) (c : Nat) (W : World), n ≤ 24 → St w0 R e ws n o A c W → Calls Tryd.prog 26 #[.pointer (some ⟨R, 0, none⟩)] W (PartPost w0 R e o W (partP e d ws n))
def isBr (s : Bytes) : Bool := s == [40]
theorem partP_stop {e d : Nat} {ws : List Tok} {n : Nat} {r : PR} (h : headP e (d == 0) ws n = some r) : partP e d ws n = r := by
  cases d with
  | zero => unfold partP; simp only [beq_self_eq_true] at h; rw [h]
  | succ d => unfold partP; simp only [show (d + 1 == 0) = false from rfl] at h; rw [h]
theorem partP_plain {e d : Nat} {ws : List Tok} {n : Nat} (h : headP e (d == 0) ws n = none) (hb : atT ws ≠ [40]) : partP e d ws n = plainP e ws n := by
  cases d with
  | zero => unfold partP; simp only [beq_self_eq_true] at h; rw [h]
  | succ d => unfold partP; simp only [show (d + 1 == 0) = false from rfl] at h; rw [h]; dsimp only; rw [if_neg hb]
theorem partP_bracket {e d : Nat} {ws : List Tok} {n : Nat} (h : headP e false ws n = none) (hb : atT ws = [40]) : partP e (d + 1) ws n = bracketP e (partP e d) ws.tail (n + 1) := by
  unfold partP; rw [h]; dsimp only; rw [if_pos hb]
theorem PartPost.stop {w0 : World} {R e o : Nat} {w w' : World} {p : Nat} {x : Int} {r : PR} (h : r = .stop p x) (hb : ButR R w w') : PartPost w0 R e o w r (stopV p x) w' := by subst h; exact ⟨hb, rfl⟩
theorem part_stops {e d : Nat} {ws : List Tok} {n : Nat} {x : Int} (h : headP e (d == 0) ws n = some (.stop (atPl e ws) x)) : partP e d ws n = .stop (atPl e ws) x := partP_stop h
theorem head_a {e : Nat} {l : Bool} {ws : List Tok} {n : Nat} (h : atT ws = [] ∨ atT ws = [41]) : headP e l ws n = some (.stop (atPl e ws) 4) := by unfold headP; rw [if_pos h]
theorem head_b {e : Nat} {ws : List Tok} {n : Nat} (h : atT ws = [40]) : headP e true ws n = some (.stop (atPl e ws) 21) := by
  unfold headP; rw [if_neg (by rw [h]; decide), if_pos ⟨h, rfl⟩]
theorem head_c {e : Nat} {l : Bool} {ws : List Tok} {n : Nat} (h : ¬ (atT ws = [] ∨ atT ws = [41])) (h2 : ¬ (atT ws = [40] ∧ l = true)) (hn : n = 24) : headP e l ws n = some (.stop (atPl e ws) 40) := by
  unfold headP; rw [if_neg h, if_neg h2, if_pos hn]
theorem head_d {e : Nat} {l : Bool} {ws : List Tok} {n : Nat} (h : ¬ (atT ws = [] ∨ atT ws = [41])) (h2 : ¬ (atT ws = [40] ∧ l = true)) (hn : n ≠ 24) : headP e l ws n = none := by
  unfold headP; rw [if_neg h, if_neg h2, if_neg hn]
set_option maxRecDepth 100000 in
set_option maxHeartbeats 16000000 in
theorem rpart_of {w0 : World} {R e o d : Nat} (hd : d + o = 8) (hp : PlainSays w0 R e o) (hb : ∀ d', d = d' + 1 → BracketSays w0 R e o d') : PartSays w0 R e o d := by
  intro ws n A c W hn h
  have hmf : ∀ (fn : Fn) (first cap : Array Value) (w : World), (Instr.makeFunc fn first cap).run Tryd.prog w = .ok (.func fn first cap) w := fun _ _ _ _ => rfl
  have H := Lib.hid h
  have HP := Lib.hid hp
  have HB := Lib.hid hb
  obtain ⟨s, hs⟩ : ∃ s, s = bs (atT ws) := ⟨_, rfl⟩
  have hsl : s.toList = atT ws := by rw [hs, bs_toList]
  have HS := Lib.hid hsl
  obtain ⟨pl, hpl⟩ : ∃ pl, pl = atPl e ws := ⟨_, rfl⟩
  have HPL := Lib.hid hpl
  have hat := Lib.hid (rat_any (w0 := w0) (R := R) (e := e) (ws := ws) (n := n) (o := o) (A := A) (c := c))
  rw [← hs, ← hpl] at hat
  have hR := h.lt
  have HD := Lib.hid hd
  have HN := Lib.hid hn
  by_cases q1 : atT ws = [] ∨ atT ws = [41]
  · have hr := Lib.hid (part_stops (d := d) (head_a (e := e) (l := d == 0) (n := n) q1))
    rw [← hpl] at hr
    have f1 : s.toList.isEmpty = true ∨ (s.toList.isEmpty = false ∧ (s.toList == [41]) = true) := by
      rw [hsl]
      rcases q1 with q | q <;> rw [q] <;> decide
    clear h hp hb hs hpl hsl q1 hd hn
    rcases f1 with f1 | ⟨f1, f2⟩
    all_goals
      go_enter Tryd.func26, Tryd.ntmps26
      go_wp2_with fail
      go_at_call 27
      refine (hat.out _ (H.out.then ((Below.refl _ _).alloc (Nat.le_refl _) _))).mono ?_
      rintro en w1 ⟨rfl, hB1, S1⟩
      go_wp2_with fail
      exact ⟨rfl, PartPost.stop hr.out (((ButR.refl _ _).alloc _).trans hB1)⟩
  · have f0 : s.toList.isEmpty = false := by
      rw [hsl]; cases he : (atT ws).isEmpty with
      | false => rfl
      | true => exact absurd (.inl (List.isEmpty_iff.1 he)) q1
    have f1 : (s.toList == [41]) = false := by
      rw [hsl]; simp only [beq_eq_false_iff_ne]; exact fun he => q1 (.inr he)
    by_cases q2 : atT ws = [40]
    · have f2 : (s.toList == [40]) = true := by rw [hsl, q2]; decide
      by_cases q3 : d = 0
      · subst q3
        have hr := Lib.hid (part_stops (d := 0) (head_b (e := e) (n := n) q2))
        rw [← hpl] at hr
        obtain rfl : o = 8 := by omega
        clear h hp hb hs hpl hsl q1 q2 hd hn
        go_enter Tryd.func26, Tryd.ntmps26
        go_wp2_with fail
        go_at_call 27
        refine (hat.out _ (H.out.then ((Below.refl _ _).alloc (Nat.le_refl _) _))).mono ?_
        rintro en w1 ⟨rfl, hB1, S1⟩
        have c3 := S1.c3
        go_wp2_with fail
        exact ⟨rfl, PartPost.stop hr.out (((ButR.refl _ _).alloc _).trans hB1)⟩
      · have f3 : ((o : Int) == 8) = false := by simp only [beq_eq_false_iff_ne]; omega
        have ql : ¬ (atT ws = [40] ∧ (d == 0) = true) := by rintro ⟨_, h0⟩; exact q3 (by simpa using h0)
        by_cases q4 : n = 24
        · have hr := Lib.hid (part_stops (d := d) (head_c (e := e) q1 ql q4))
          rw [← hpl] at hr
          have f4 : ((n : Int) == 24) = true := by simp only [beq_iff_eq]; omega
          clear h hp hb hs hpl hsl q1 q2 q3 q4 hd hn ql
          go_enter Tryd.func26, Tryd.ntmps26
          go_wp2_with fail
          go_at_call 27
          refine (hat.out _ (H.out.then ((Below.refl _ _).alloc (Nat.le_refl _) _))).mono ?_
          rintro en w1 ⟨rfl, hB1, S1⟩
          have c3 := S1.c3
          have c2 := S1.c2
          go_wp2_with fail
          exact ⟨rfl, PartPost.stop hr.out (((ButR.refl _ _).alloc _).trans hB1)⟩
        · have f4 : ((n : Int) == 24) = false := by simp only [beq_eq_false_iff_ne]; omega
          obtain ⟨d', rfl⟩ : ∃ d', d = d' + 1 := ⟨d - 1, by omega⟩
          have hr := Lib.hid (partP_bracket (e := e) (d := d') (ws := ws) (n := n) (head_d q1 ql q4) q2)
          obtain ⟨x, ws', rfl⟩ : ∃ x ws', ws = x :: ws' := by
            cases ws with
            | nil => cases q2
            | cons x ws' => exact ⟨x, ws', rfl⟩
          have g1 : (n : Int) ≤ 24 := by omega
          have g2 : n + 1 ≤ 24 := by omega
          have HQ := Lib.hid g2
          clear h hp hb hs hpl hsl q1 q2 q3 q4 hd hn ql g2
          go_enter Tryd.func26, Tryd.ntmps26
          go_wp2_with fail
          go_at_call 27
          refine (hat.out _ (H.out.then ((Below.refl _ _).alloc (Nat.le_refl _) _))).mono ?_
          rintro en w1 ⟨rfl, hB1, S1⟩
          have c3 := S1.c3
          have c2 := S1.c2
          have f2' := S1.f2
          go_wp2_with fail
          have S2 := S1.setParts (n + 1)
          rw [show ((n + 1 : Nat) : Int) = (n : Int) + 1 by omega] at S2
          have X2 := ((Box7.new W _ _ _ _ _ _ _ _).butR hB1 (by omega)).butR ((ButR.refl R w1).set 2 (.int .i64 ((n : Int) + 1))) (by omega)
          refine (HB.out d' rfl x ws' n _ _ _ _ HQ.out S2).mono ?_
          rintro en w2 ⟨hB2, hP⟩
          have hBB := (((ButR.refl R W).alloc _).trans hB1).set 2 (.int .i64 ((n : Int) + 1))
          have hB3 := hBB.trans hB2
          have X3 := X2.butR hB2 (by omega)
          rw [show (x :: ws').tail = ws' from rfl] at hr
          generalize bracketP e (partP e d') ws' (n + 1) = res at *
          clear S1 S2 c2 c3 f2' X2
          cases res with
          | stop p x =>
            simp only at hP
            subst hP
            unfold stopV
            go_wp2_with fail
            exact ⟨rfl, PartPost.stop hr.out hB3⟩
          | ok t rs m =>
            obtain ⟨rv, hrt, rfl, hT, A', c', S3⟩ := hP
            obtain ⟨⟨h0, h1, h2, h3, h4, h5, h6⟩, ⟨k0, k1, k2, k3, k4, k5, k6⟩, hl⟩ := X3
            unfold RV.val
            go_wp2_with fail
            have hsz1 := hB1.size
            have hsz := hB2.size
            simp only [World.setCell, Array.size_modify, World.size_alloc] at hsz hsz1 hT
            refine bodyPost_ret (v := rv.val) (by unfold RV.val; simp [results, Tryd.results26, go_sem, h0, h1, h2, h3, h4, h5, h6]) rfl ?_
            rw [hr.out]
            exact ⟨store7_but (Nat.le_refl _) hB3 _ _ _ _ _ _ _, rv, hrt, rfl, hT.store (by omega) (by omega) _ _ _ _ _ _ _, A', c', S3.past (store7_below (by omega) (Below.refl _ _) _ _ _ _ _ _ _)⟩
    · have f2 : (s.toList == [40]) = false := by rw [hsl]; simp only [beq_eq_false_iff_ne]; exact q2
      have ql : ¬ (atT ws = [40] ∧ (d == 0) = true) := fun hh => q2 hh.1
      by_cases q4 : n = 24
      · have hr := Lib.hid (part_stops (d := d) (head_c (e := e) q1 ql q4))
        rw [← hpl] at hr
        have f4 : ((n : Int) == 24) = true := by simp only [beq_iff_eq]; omega
        clear h hp hb hs hpl hsl q1 q2 q4 hd hn ql
        go_enter Tryd.func26, Tryd.ntmps26
        go_wp2_with fail
        go_at_call 27
        refine (hat.out _ (H.out.then ((Below.refl _ _).alloc (Nat.le_refl _) _))).mono ?_
        rintro en w1 ⟨rfl, hB1, S1⟩
        have c3 := S1.c3
        have c2 := S1.c2
        have f2' := S1.f2
        go_wp2_with fail
        exact ⟨rfl, PartPost.stop hr.out (((ButR.refl _ _).alloc _).trans hB1)⟩
      · have f4 : ((n : Int) == 24) = false := by simp only [beq_eq_false_iff_ne]; omega
        have hr := Lib.hid (partP_plain (e := e) (d := d) (ws := ws) (n := n) (head_d q1 ql q4) q2)
        have g1 : (n : Int) ≤ 24 := by omega
        obtain ⟨x, ws', rfl⟩ : ∃ x ws', ws = x :: ws' := by
          cases ws with
          | nil => exact absurd (.inl rfl) q1
          | cons x ws' => exact ⟨x, ws', rfl⟩
        have hx1 := Lib.hid (show pl = x.1 from hpl)
        clear h hp hb hs hpl hsl q1 q2 q4 hd hn ql
        go_enter Tryd.func26, Tryd.ntmps26
        go_wp2_with fail
        go_at_call 27
        refine (hat.out _ (H.out.then ((Below.refl _ _).alloc (Nat.le_refl _) _))).mono ?_
        rintro en w1 ⟨rfl, hB1, S1⟩
        have c3 := S1.c3
        have c2 := S1.c2
        have f2' := S1.f2
        go_wp2_with fail
        have S2 := S1.setParts (n + 1)
        rw [show ((n + 1 : Nat) : Int) = (n : Int) + 1 by omega] at S2
        have X2 := ((Box7.new W _ _ _ _ _ _ _ _).butR hB1 (by omega)).butR ((ButR.refl R w1).set 2 (.int .i64 ((n : Int) + 1))) (by omega)
        have hq := HP.out x ws' n _ _ _ S2
        rw [← hx1.out] at hq
        refine hq.mono ?_
        rintro en w2 ⟨hB2, hP⟩
        have hBB := (((ButR.refl R W).alloc _).trans hB1).set 2 (.int .i64 ((n : Int) + 1))
        have hB3 := hBB.trans hB2
        have X3 := X2.butR hB2 (by omega)
        clear hq
        generalize plainP e (x :: ws') n = res at *
        clear S1 S2 c2 c3 f2' X2
        cases res with
        | stop p x =>
          simp only at hP
          subst hP
          unfold stopV
          go_wp2_with fail
          exact ⟨rfl, PartPost.stop hr.out hB3⟩
        | ok t rs m =>
          obtain ⟨rv, hrt, rfl, hT, A', c', S3⟩ := hP
          obtain ⟨⟨h0, h1, h2, h3, h4, h5, h6⟩, ⟨k0, k1, k2, k3, k4, k5, k6⟩, hl⟩ := X3
          unfold RV.val
          go_wp2_with fail
          have hsz1 := hB1.size
          have hsz := hB2.size
          simp only [World.setCell, Array.size_modify, World.size_alloc] at hsz hsz1 hT
          refine bodyPost_ret (v := rv.val) (by unfold RV.val; simp [results, Tryd.results26, go_sem, h0, h1, h2, h3, h4, h5, h6]) rfl ?_
          rw [hr.out]
          exact ⟨store7_but (Nat.le_refl _) hB3 _ _ _ _ _ _ _, rv, hrt, rfl, hT.store (by omega) (by omega) _ _ _ _ _ _ _, A', c', S3.past (store7_below (by omega) (Below.refl _ _) _ _ _ _ _ _ _)⟩

/- Walks: a plain dependency is read out of words (rich.reader's plain). -/

theorem dmay_wf {d : Dp} (h : dmayB d = true) : d.wf := by
  have hn := name_iff.1 (dmay_iff.1 h).1
  have hm := (dmay_iff.1 h).2.1
  refine ⟨by unfold maxLen; omega, opMay_wf hm, ?_⟩
  rcases (dmay_iff.1 h).2.2 with ⟨_, e⟩ | ⟨_, _, e⟩
  · rw [e]; exact ⟨rfl, Nat.zero_le _, Nat.zero_le _⟩
  · exact isEvr_wf (evOf_iff.2 ⟨e, rfl⟩)
theorem Box7.past {m : Nat} {a0 a1 a2 a3 a4 a5 a6 : Value} {W W' : World} (h : Box7 m a0 a1 a2 a3 a4 a5 a6 W) (hb : Below (m + 1) W W') : Box7 m a0 a1 a2 a3 a4 a5 a6 W' := by
  obtain ⟨⟨h0, h1, h2, h3, h4, h5, h6⟩, ⟨f0, f1, f2, f3, f4, f5, f6⟩, hl⟩ := h
  have hc : ∀ i, W'.cell? ⟨m, i, none⟩ = W.cell? ⟨m, i, none⟩ := fun i => hb.cell (p := ⟨m, i, none⟩) (Nat.lt_succ_self m)
  have hf : ∀ i, W'.frozen? ⟨m, i, none⟩ = W.frozen? ⟨m, i, none⟩ := fun i => hb.frozen (p := ⟨m, i, none⟩) (Nat.lt_succ_self m)
  exact ⟨⟨(hc 0).trans h0, (hc 1).trans h1, (hc 2).trans h2, (hc 3).trans h3, (hc 4).trans h4, (hc 5).trans h5, (hc 6).trans h6⟩, ⟨(hf 0).trans f0, (hf 1).trans f1, (hf 2).trans f2, (hf 3).trans f3, (hf 4).trans f4, (hf 5).trans f5, (hf 6).trans f6⟩, Nat.lt_of_lt_of_le hl hb.size⟩
/-- a plain one as it lies -/
def atomV (d : Dp) : RV := .node 1 d none 0 []
theorem atomV_tq {Q : Nat → Prop} {W : World} {d : Dp} (h : d.wf) : TQ Q W (atomV d) := .mk h (Nat.zero_le _) (Nat.zero_le _) (fun k hk => absurd hk (by simp [atomV, RV.args])) (fun a ha => by simp [atomV, RV.args] at ha)
theorem own_lit {α : Type} {enc : α → List Value} {size base : Nat} {e : TypeId} (w : World) (x : α) (cs : Array Value) (hcs : cs.toList = enc x) (hs : (enc x).length = size) (hb : base ≤ w.heap.size) :
    Own enc size base e (.slice (some ⟨w.heap.size, 0, none⟩) 1 1) [x] (w.alloc (.cells cs e)) := by
  have hcs2 : cs.size = size := by rw [← Array.length_toList, hcs, hs]
  refine ⟨by simp [hs], .inr ⟨w.heap.size, 1, cs, rfl, hb, World.alloc_heap_new w _, Nat.le_refl _, by decide, by rw [hcs2, Nat.one_mul], ?_⟩⟩
  rw [List.length_singleton, Nat.one_mul, List.take_of_length_le (by rw [Array.length_toList]; omega), hcs]
  simp
theorem dof_words {L : List Bytes} {v : Value} {W : World} {base : Nat} (hO : Own encStr 1 base 9 v (L.map bs) W) (hL : L.length ≤ 3) (hs : ∀ w ∈ L, w.length ≤ 10000) (hI : DpIn W) : Calls Tryd.prog 86 #[v] W fun e w' => e = .returned (ofV (dpOf L)) ∧ Below W.heap.size W w' := by
  obtain ⟨A, c, rfl, hT⟩ := TR.of_own (D := L.map bs) hO
  have h := dof_any A c (L.map bs) W (by simp; omega) (fun s hs' => by obtain ⟨w, hw, rfl⟩ := List.mem_map.1 hs'; rw [bs_size]; have := hs w hw; omega) hT hI
  have e : (L.map bs).map (·.toList) = L := by
    rw [List.map_map]
    exact (List.map_congr_left fun x _ => bs_toList x).trans (List.map_id _)
  rw [e] at h
  exact h
/-- what the end of plain comes to, the words being gathered -/
structure Gathered (w0 : World) (R e o : Nat) (ws : List Tok) (n : Nat) (j : Nat) (W : World) (v : Value) (wr : World) : Prop where
  but : ButR R W wr
  box : Box7 W.heap.size (.int .u8 0) (.string ⟨#[]⟩) (.int .u8 0) (.int .i64 0) (.string ⟨#[]⟩) (.string ⟨#[]⟩) (.slice none 0 0) wr
  own : Own encStr 1 (W.heap.size + 1) 9 v ((txt (ws.take (1 + j))).map bs) wr
  st : ∃ A c, St w0 R e (ws.drop (1 + j)) (n + 1) o A c wr
theorem Gathered.same {w0 : World} {R e o n j : Nat} {ws : List Tok} {W wr w' : World} {v : Value} (h : Gathered w0 R e o ws n j W v wr) (hd : ws.drop (1 + j) = []) (hb : ButR R wr w') (hS : ∃ A c, St w0 R e [] (n + 1) o A c w') (hR : R < W.heap.size) : Gathered w0 R e o ws n (j + 1) W v w' := by
  have hl := List.drop_eq_nil_iff.1 hd
  refine ⟨h.but.trans hb, h.box.butR hb (by omega), ?_, ?_⟩
  · rw [List.take_of_length_le (by omega)]
    have := h.own
    rw [List.take_of_length_le hl] at this
    exact this.butR hb (by omega)
  · rw [List.drop_eq_nil_iff.2 (by omega)]; exact hS
theorem Gathered.more {w0 : World} {R e o n j : Nat} {ws : List Tok} {W wr w5 w6 : World} {v v1 : Value} {y : Tok} {r : List Tok} {LL : List ByteArray} {cs : Obj} (h : Gathered w0 R e o ws n j W v wr) (hd : ws.drop (1 + j) = y :: r) (hb : ButR R wr w5) (hS : ∃ A c, St w0 R e r (n + 1) o A c w5) (hR : R < W.heap.size)
    (hLL : LL = List.map bs (txt (List.take (1 + j) ws))) (ho : w6.ownsRow (W.heap.size + 1) 9 1 v1 (LL.length + 1) (LL.flatMap encStr ++ [.string (bs y.2)])) (hg : (w5.alloc cs).grownBy w6 v.ownBlock) : Gathered w0 R e o ws n (j + 1) W v1 w6 := by
  have hl : 1 + j < ws.length := by
    have := congrArg List.length hd
    simp only [List.length_drop, List.length_cons] at this
    omega
  have he := List.drop_eq_getElem_cons hl
  rw [hd] at he
  obtain ⟨h1, h2⟩ := List.cons.inj he
  have ht : List.map bs (txt (ws.take (1 + (j + 1)))) = LL ++ [bs y.2] := by
    rw [hLL, show 1 + (j + 1) = 1 + j + 1 by omega, take_snoc _ _ hl, ← h1]
    simp [txt]
  have hm := h.box.2.2
  have hz := hb.size
  have hr : ∀ k, v.ownBlock = some k → W.heap.size + 1 ≤ k := fun k e => (World.ownsRow.lt h.own k e).1
  have hG : ∀ {B : Nat}, B ≤ W.heap.size + 1 → Below B (w5.alloc cs) w6 := fun hB => (Below.refl _ _).grown hg (by simp; omega) (fun k e => Nat.le_trans hB (hr k e))
  refine ⟨((h.but.trans hb).alloc _).grown hg (fun k e => Nat.le_of_succ_le (hr k e)), (((h.box.butR hb (by omega)).butR ((ButR.refl R _).alloc cs) (by omega))).past (hG (Nat.le_refl _)), ?_, ?_⟩
  · rw [ht]; exact Own.snoc ho
  · obtain ⟨A, c, hS⟩ := hS
    rw [show ws.drop (1 + (j + 1)) = r by rw [show 1 + (j + 1) = 1 + j + 1 by omega]; exact h2.symm]
    exact ⟨A, c, (hS.then ((Below.refl _ _).alloc (Nat.le_refl _) cs)).past (hG (by omega))⟩
theorem txt_small {ws : List Tok} (h : ∀ x ∈ ws, x.2.length ≤ 10000 ∧ x.1 ≤ 10000) (k : Nat) : ∀ w ∈ txt (ws.take k), w.length ≤ 10000 := by
  intro w hw
  obtain ⟨x, hx, rfl⟩ := List.mem_map.1 hw
  exact (h x (List.mem_of_mem_take hx)).1
theorem txt_len (ws : List Tok) (k : Nat) : (txt (ws.take k)).length ≤ k := by simp [txt]; omega
set_option maxRecDepth 100000 in
set_option maxHeartbeats 16000000 in
theorem rplain_says {w0 : World} (hI : RichIn w0) (R e o : Nat) : PlainSays w0 R e o := by
  intro x ws n A c W h
  have H := Lib.hid h
  have HI := Lib.hid hI
  have hR := h.lt
  have HSM := Lib.hid h.small
  obtain ⟨s, hs⟩ : ∃ s, s = bs (atT ws) := ⟨_, rfl⟩
  have hsl : s.toList = atT ws := by rw [hs, bs_toList]
  obtain ⟨x2, hx2⟩ : ∃ s, s = bs x.2 := ⟨_, rfl⟩
  obtain ⟨x1, hx1⟩ : ∃ s, s = x.1 := ⟨_, rfl⟩
  have hb2 := h.base
  have HT := Lib.hid (fun W h => rtake_cons (w0 := w0) (R := R) (e := e) (x := x) (ws := ws) (n := n + 1) (o := o) (A := A) (c := c) W h)
  rw [← hx2] at HT
  rw [← hx1]
  have HA := Lib.hid (fun A c W h => rat_any (w0 := w0) (R := R) (e := e) (ws := ws) (n := n + 1) (o := o) (A := A) (c := c) W h)
  rw [← hs] at HA
  have HX2 := Lib.hid hx2
  have HX1 := Lib.hid hx1
  have hss : s.size ≤ maxLen := by
    rw [hs, bs_size]
    cases ws with
    | nil => simp [atT]
    | cons y r => have := (h.small y (by simp)).1; simp only [atT]; unfold maxLen; omega
  have HSS := Lib.hid hss
  obtain ⟨op, is, hop⟩ : ∃ op is, opOf s.toList = (op, is) := ⟨_, _, rfl⟩
  have hN : plainN (x :: ws) = if (is && !(op == 0)) = true then 3 else 1 := by
    unfold plainN isOp
    rw [List.tail_cons, ← hsl, hop]
  have HN := Lib.hid hN
  have HO := Lib.hid hop
  clear h hI hs hsl hx2 hx1 hss hop hN
  go_enter Tryd.func52, Tryd.ntmps52
  go_wp2_with fail
  go_at_call 84
  refine (HT.out _ (H.out.then ((Below.refl _ _).alloc (Nat.le_refl _) _))).mono ?_
  rintro en w1 ⟨rfl, hB1, A1, c1, S1⟩
  have X1 := (Box7.new W _ _ _ _ _ _ _ _).butR hB1 (by omega)
  have B1 := ((ButR.refl R W).alloc _).trans hB1
  have hz1 : W.heap.size + 1 ≤ w1.heap.size := by have := hB1.size; simpa using this
  clear hB1
  go_wp2_with fail
  go_at_call 27
  have O1 : Own encStr 1 (W.heap.size + 1) 9 (.slice (some ⟨w1.heap.size, 0, none⟩) 1 1) [x2] (w1.alloc (.cells #[.string x2] 9)) := own_lit w1 x2 _ rfl rfl hz1
  refine (HA.out A1 c1 _ (S1.then ((Below.refl _ _).alloc (Nat.le_refl _) _))).mono ?_
  rintro en w2 ⟨rfl, hB2, S2⟩
  have G2 : Gathered w0 R e o (x :: ws) n 0 W (.slice (some ⟨w1.heap.size, 0, none⟩) 1 1) w2 := ⟨(B1.alloc _).trans hB2, (X1.butR ((ButR.refl R _).alloc _) (by omega)).butR hB2 (by omega), by
    have := O1.butR hB2 (by omega)
    rw [HX2.out] at this
    exact this, A1, c1, S2⟩
  clear S1 X1 B1 O1 hB2
  go_wp2_with fail
  go_at_call 85
  have I2 := RichIn.past HI.out (Nat.le_refl _) S2.old
  have hq := opParse_any s HSS.out w2 I2.1.2.1
  rw [HO.out] at hq
  refine hq.mono ?_
  rintro en w3 ⟨rfl, rfl⟩
  clear hq I2
  generalize w1.heap.size = g1 at *
  have G2 := Lib.hid G2
  clear S2 hz1
  by_cases q1 : is = true
  · subst q1
    by_cases q2 : (op == 0) = true
    · have hN : plainN (x :: ws) = 1 + 0 := by rw [HN.out, q2]; rfl
      have q5 : (op != 0) = false := by simp only [bne, q2, Bool.not_true]
      have HN1 := Lib.hid hN
      clear hN HN HO
      go_wp2_with fail
      go_at_call 86
      have G := G2.out
      obtain ⟨A2, c2, S2⟩ := G.st
      refine (dof_words G.own (Nat.le_trans (txt_len _ _) (by omega)) (txt_small HSM.out _) (RichIn.past HI.out (Nat.le_refl _) S2.old).1).mono ?_
      rintro en w4 ⟨rfl, hB4⟩
      have hr : plainP e (x :: ws) n = match dpOf (txt ((x :: ws).take (1 + 0))) with | none => .stop x.1 4 | some d => .ok (.mk 1 d []) ((x :: ws).drop (1 + 0)) (n + 1) := by unfold plainP; rw [HN1.out]; rfl
      have HB4 := G.but.then hB4
      have X4 := G.box.past (hB4.mono (by have := G.box.2.2; omega))
      have S4 := S2.then hB4
      generalize hdp : dpOf (txt ((x :: ws).take (1 + 0))) = dd at *
      cases dd with
      | none =>
        rw [ofV_none]
        unfold ZV
        have HRR := Lib.hid hr
        rw [← HX1.out] at HRR
        clear hr hdp G S2 hB4 S4 X4
        go_wp2_with fail
        exact ⟨rfl, PartPost.stop HRR.out (HB4.alloc _)⟩
      | some d =>
        have hm := (words_dpOf hdp).1
        have HM := Lib.hid (dmay_wf hm)
        have HRR := Lib.hid hr
        have XX := Lib.hid X4
        obtain ⟨⟨h0, h1, h2, h3, h4, h5, h6⟩, ⟨k0, k1, k2, k3, k4, k5, k6⟩, hl⟩ := X4
        unfold ofV
        dsimp only
        unfold Dp.val
        clear hr hdp G S2 hB4 hm
        go_wp2_with fail
        have XF := (XX.out.store (.int .u8 1) (.string (bs d.name)) (.int .u8 d.op) (.int .i64 d.evr.epoch) (.string (bs d.evr.ver)) (.string (bs d.evr.rel)) (.slice none 0 0)).past ((Below.refl _ _).alloc (by rw [store7_size]; exact hl) (.cells #[.string (bs d.name), .int .u8 d.op, .int .i64 d.evr.epoch, .string (bs d.evr.ver), .string (bs d.evr.rel)] 26))
        unfold store7 at XF
        obtain ⟨⟨j0, j1, j2, j3, j4, j5, j6⟩, _⟩ := XF
        refine bodyPost_ret (v := (atomV d).val) (by simp [RV.val, atomV, RV.kind, RV.dep, RV.addr, RV.args, RV.cap, results, Tryd.results52, go_sem, j0, j1, j2, j3, j4, j5, j6]) rfl ?_
        rw [HRR.out]
        exact ⟨(store7_but (Nat.le_refl _) HB4 _ _ _ _ _ _ _).alloc _, atomV d, rfl, rfl, atomV_tq HM.out, A2, c2, (S4.past (store7_below (by omega) (Below.refl _ _) _ _ _ _ _ _ _)).then ((Below.refl _ _).alloc (Nat.le_refl _) _)⟩
    · have q3 : (op == 0) = false := by simpa using q2
      have hN : plainN (x :: ws) = 1 + 2 := by rw [HN.out, q3]; rfl
      have q5 : (op != 0) = true := by simp only [bne, q3, Bool.not_false]
      have HN1 := Lib.hid hN
      have hne : ws ≠ [] := by
        rintro rfl
        have h1 := HN1.out
        simp [plainN, isOp, atT, opOf] at h1
      clear hN HN HO q2
      go_wp2_with fail
      go_loopw [7, 38] (fun v i wr => ∃ j : Nat, j ≤ 2 ∧ i = .int .i64 (j : Int) ∧ Gathered w0 R e o (x :: ws) n j W v wr) (fun _ i _ => 2 - (intOf i).toNat)
      case atStart => exact ⟨0, by omega, rfl, G2.out⟩
      case round =>
        obtain ⟨j, hj, rfl, hG⟩ := hrel
        rename World => wr
        by_cases hlt : j < 2
        · have i1 : (j : Int) < 2 := by omega
          have i2 : (j : Int) ≤ 2 := by omega
          obtain ⟨A3, c3, S3⟩ := hG.st
          have hLL := txt_len (x :: ws) (1 + j)
          obtain ⟨Av, cv, rfl, hTv⟩ := TR.of_own hG.own
          have HG := Lib.hid hG
          cases hdr : (x :: ws).drop (1 + j) with
          | nil =>
            rw [hdr] at S3
            have HD := Lib.hid hdr
            clear hG hTv hdr hLL
            generalize (List.map bs (txt (List.take (1 + j) (x :: ws)))).length = nn at *
            go_wp2_with fail
            go_at_call 84
            refine (rtake_nil _ S3).mono ?_
            rintro en w5 ⟨rfl, hB5, S5⟩
            go_wp2_with fail
            go_roundw
            case rel => exact ⟨j + 1, by omega, by go_num, HG.out.same HD.out hB5 ⟨_, _, S5⟩ hR⟩
            case measure => simp [intOf]; omega
          | cons y r =>
            rw [hdr] at S3
            have HD := Lib.hid hdr
            have hnn : (List.map bs (txt (List.take (1 + j) (x :: ws)))).length ≤ 3 := by rw [List.length_map]; omega
            have HNN := Lib.hid hnn
            clear hG hTv hdr hLL hnn
            obtain ⟨LL, hLL⟩ : ∃ LL, LL = List.map bs (txt (List.take (1 + j) (x :: ws))) := ⟨_, rfl⟩
            rw [← hLL] at HNN HG ⊢
            have HLL := Lib.hid hLL
            have HO0 := Lib.hid (show Own encStr 1 (W.heap.size + 1) 9 (.slice Av LL.length cv) LL wr by have := HG.out.own; rw [← hLL] at this; exact this)
            clear hLL
            go_wp2_with fail
            go_at_call 84
            refine (rtake_cons _ S3).mono ?_
            rintro en w5 ⟨rfl, hB5, A5, c5, S5⟩
            have O5 : w5.ownsRow (W.heap.size + 1) 9 1 (.slice Av LL.length cv) LL.length (LL.flatMap encStr) := HO0.out.butR hB5 (by omega)
            have hw5 : W.heap.size + 1 ≤ w5.heap.size := Nat.lt_of_lt_of_le (HG.out.box).2.2 hB5.size
            go_wp2_with (at_builtin; refine wpList_append_own_at _ rfl _ _ 22 rfl (W.heap.size + 1) 9 _ (.string { data := #[] }) 1 16 (by rfl) (by rfl) (by rfl) (by rfl) (by rfl) rfl (by decide) _ _ _ rfl (World.ownsRow.alloc O5 _) ⟨_, 0, none⟩ 1 1 [.string (bs y.2)] rfl rfl (cell_one_new _ _ _) (by simp [Value.oneCell']) (by have := HNN.out; simp only [maxLen]; omega) (by have := HNN.out; omega) (by simp; omega) ?_; intro v1 w6 ho1 hg1 _ hw1)
            go_roundw
            case rel => exact ⟨j + 1, by omega, by go_num, HG.out.more HD.out hB5 ⟨_, _, S5⟩ hR HLL.out ho1 hg1⟩
            case measure => simp [intOf]; omega
        · have i1 : ¬ (j : Int) < 2 := by omega
          obtain rfl : j = 2 := by omega
          have G2 := Lib.hid hG
          obtain ⟨Av, cv, rfl, hTv⟩ := TR.of_own hG.own
          clear hG hTv i1 hlt hj
          generalize (List.map bs (txt (List.take (1 + 2) (x :: ws)))).length = nn at *
          go_wp2_with fail
          go_at_call 86
          have G := G2.out
          obtain ⟨A2, c2, S2⟩ := G.st
          refine (dof_words G.own (Nat.le_trans (txt_len _ _) (by omega)) (txt_small HSM.out _) (RichIn.past HI.out (Nat.le_refl _) S2.old).1).mono ?_
          rintro en w4 ⟨rfl, hB4⟩
          have hr : plainP e (x :: ws) n = match dpOf (txt ((x :: ws).take (1 + 2))) with | none => .stop x.1 4 | some d => .ok (.mk 1 d []) ((x :: ws).drop (1 + 2)) (n + 1) := by unfold plainP; rw [HN1.out]; rfl
          have HB4 := G.but.then hB4
          have X4 := G.box.past (hB4.mono (by have := G.box.2.2; omega))
          have S4 := S2.then hB4
          generalize hdp : dpOf (txt ((x :: ws).take (1 + 2))) = dd at *
          cases dd with
          | none =>
            rw [ofV_none]
            unfold ZV
            have HRR := Lib.hid hr
            rw [← HX1.out] at HRR
            clear hr hdp G S2 hB4 S4 X4
            go_wp2_with fail
            exact ⟨rfl, PartPost.stop HRR.out (HB4.alloc _)⟩
          | some d =>
            have hm := (words_dpOf hdp).1
            have HM := Lib.hid (dmay_wf hm)
            have HRR := Lib.hid hr
            have XX := Lib.hid X4
            obtain ⟨⟨h0, h1, h2, h3, h4, h5, h6⟩, ⟨k0, k1, k2, k3, k4, k5, k6⟩, hl⟩ := X4
            unfold ofV
            dsimp only
            unfold Dp.val
            clear hr hdp G S2 hB4 hm
            go_wp2_with fail
            have XF := (XX.out.store (.int .u8 1) (.string (bs d.name)) (.int .u8 d.op) (.int .i64 d.evr.epoch) (.string (bs d.evr.ver)) (.string (bs d.evr.rel)) (.slice none 0 0)).past ((Below.refl _ _).alloc (by rw [store7_size]; exact hl) (.cells #[.string (bs d.name), .int .u8 d.op, .int .i64 d.evr.epoch, .string (bs d.evr.ver), .string (bs d.evr.rel)] 26))
            unfold store7 at XF
            obtain ⟨⟨j0, j1, j2, j3, j4, j5, j6⟩, _⟩ := XF
            refine bodyPost_ret (v := (atomV d).val) (by simp [RV.val, atomV, RV.kind, RV.dep, RV.addr, RV.args, RV.cap, results, Tryd.results52, go_sem, j0, j1, j2, j3, j4, j5, j6]) rfl ?_
            rw [HRR.out]
            exact ⟨(store7_but (Nat.le_refl _) HB4 _ _ _ _ _ _ _).alloc _, atomV d, rfl, rfl, atomV_tq HM.out, A2, c2, (S4.past (store7_below (by omega) (Below.refl _ _) _ _ _ _ _ _ _)).then ((Below.refl _ _).alloc (Nat.le_refl _) _)⟩
  · have q3 : is = false := by simpa using q1
    subst q3
    have hN : plainN (x :: ws) = 1 + 0 := by rw [HN.out]; rfl
    have HN1 := Lib.hid hN
    clear hN HN HO q1
    go_wp2_with fail
    go_at_call 86
    have G := G2.out
    obtain ⟨A2, c2, S2⟩ := G.st
    refine (dof_words G.own (Nat.le_trans (txt_len _ _) (by omega)) (txt_small HSM.out _) (RichIn.past HI.out (Nat.le_refl _) S2.old).1).mono ?_
    rintro en w4 ⟨rfl, hB4⟩
    have hr : plainP e (x :: ws) n = match dpOf (txt ((x :: ws).take (1 + 0))) with | none => .stop x.1 4 | some d => .ok (.mk 1 d []) ((x :: ws).drop (1 + 0)) (n + 1) := by unfold plainP; rw [HN1.out]; rfl
    have HB4 := G.but.then hB4
    have X4 := G.box.past (hB4.mono (by have := G.box.2.2; omega))
    have S4 := S2.then hB4
    generalize hdp : dpOf (txt ((x :: ws).take (1 + 0))) = dd at *
    cases dd with
    | none =>
      rw [ofV_none]
      unfold ZV
      have HRR := Lib.hid hr
      rw [← HX1.out] at HRR
      clear hr hdp G S2 hB4 S4 X4
      go_wp2_with fail
      exact ⟨rfl, PartPost.stop HRR.out (HB4.alloc _)⟩
    | some d =>
      have hm := (words_dpOf hdp).1
      have HM := Lib.hid (dmay_wf hm)
      have HRR := Lib.hid hr
      have XX := Lib.hid X4
      obtain ⟨⟨h0, h1, h2, h3, h4, h5, h6⟩, ⟨k0, k1, k2, k3, k4, k5, k6⟩, hl⟩ := X4
      unfold ofV
      dsimp only
      unfold Dp.val
      clear hr hdp G S2 hB4 hm
      go_wp2_with fail
      have XF := (XX.out.store (.int .u8 1) (.string (bs d.name)) (.int .u8 d.op) (.int .i64 d.evr.epoch) (.string (bs d.evr.ver)) (.string (bs d.evr.rel)) (.slice none 0 0)).past ((Below.refl _ _).alloc (by rw [store7_size]; exact hl) (.cells #[.string (bs d.name), .int .u8 d.op, .int .i64 d.evr.epoch, .string (bs d.evr.ver), .string (bs d.evr.rel)] 26))
      unfold store7 at XF
      obtain ⟨⟨j0, j1, j2, j3, j4, j5, j6⟩, _⟩ := XF
      refine bodyPost_ret (v := (atomV d).val) (by simp [RV.val, atomV, RV.kind, RV.dep, RV.addr, RV.args, RV.cap, results, Tryd.results52, go_sem, j0, j1, j2, j3, j4, j5, j6]) rfl ?_
      rw [HRR.out]
      exact ⟨(store7_but (Nat.le_refl _) HB4 _ _ _ _ _ _ _).alloc _, atomV d, rfl, rfl, atomV_tq HM.out, A2, c2, (S4.past (store7_below (by omega) (Below.refl _ _) _ _ _ _ _ _ _)).then ((Below.refl _ _).alloc (Nat.le_refl _) _)⟩

/- Walks: the word ahead of a part (rich.between). -/

theorem kind_word {k : Nat} (h2 : 2 ≤ k) (h7 : k < 8) : (kindL[k]'h7).1 = kwd (k : Int) ∧ (kindL[k]'h7).2 = mostK (k : Int) := by
  obtain rfl | rfl | rfl | rfl | rfl | rfl : k = 2 ∨ k = 3 ∨ k = 4 ∨ k = 5 ∨ k = 6 ∨ k = 7 := by omega
  all_goals exact ⟨rfl, rfl⟩
theorem KindsIn.at_ {w : World} (h : KindsIn w) {k : Nat} (h2 : 2 ≤ k) (h7 : k < 8) : w.cell? ⟨0, k * 2, none⟩ = some (.string (bs (kwd (k : Int)))) ∧ w.cell? ⟨0, k * 2 + 1, none⟩ = some (.int .i64 (mostK (k : Int) : Int)) := by
  have := h.2 k h7
  rw [(kind_word h2 h7).1, (kind_word h2 h7).2] at this
  exact this
set_option maxRecDepth 100000 in
set_option maxHeartbeats 4000000 in
theorem rbetween_any (k i : Nat) (h2 : 2 ≤ k) (h7 : k < 8) (w : World) (h : KindsIn w) : Calls Tryd.prog 58 #[.int .u8 (k : Int), .int .i64 (i : Int)] w fun e w' => e = .returned (.string (bs (betweenK (k : Int) i))) ∧ Below w.heap.size w w' := by
  obtain ⟨c0, c1⟩ := h.at_ h2 h7
  obtain ⟨mo, hmo⟩ : ∃ mo, mo = mostK (k : Int) := ⟨_, rfl⟩
  obtain ⟨kw, hkw⟩ : ∃ kw, kw = bs (kwd (k : Int)) := ⟨_, rfl⟩
  rw [← hmo] at c1
  rw [← hkw] at c0
  have k0 : (0 : Int) ≤ (k : Int) := by omega
  have k1 : (k : Int) < 8 := by omega
  have HK := Lib.hid hkw
  by_cases q : i = 2
  · subst q
    by_cases q2 : mo = 3
    · have hr := Lib.hid (show bs (betweenK (k : Int) 2) = ⟨#[101, 108, 115, 101]⟩ by unfold betweenK; rw [if_pos ⟨rfl, by rw [← hmo]; exact q2⟩]; rfl)
      subst q2
      clear h hmo hkw h2 h7
      go_enter Tryd.func58, Tryd.ntmps58
      go_wp2_with fail
      go_ret
      exact ⟨by rw [hr.out]; rfl, Below.refl _ _⟩
    · have q3 : ((mo : Int) == 3) = false := by simp only [beq_eq_false_iff_ne]; omega
      have hr := Lib.hid (show bs (betweenK (k : Int) 2) = kw by unfold betweenK; rw [if_neg (by rw [← hmo]; exact fun hh => q2 hh.2), hkw])
      clear h hmo hkw h2 h7 q2
      go_enter Tryd.func58, Tryd.ntmps58
      go_wp2_with fail
      go_ret
      exact ⟨by rw [hr.out]; rfl, Below.refl _ _⟩
  · have q3 : ((i : Int) == 2) = false := by simp only [beq_eq_false_iff_ne]; omega
    have hr := Lib.hid (show bs (betweenK (k : Int) i) = kw by unfold betweenK; rw [if_neg (fun hh => q hh.1), hkw])
    clear h hmo hkw h2 h7 q
    go_enter Tryd.func58, Tryd.ntmps58
    go_wp2_with fail
    go_ret
    exact ⟨by rw [hr.out]; rfl, Below.refl _ _⟩
end Go.Proofs.YtpnnhhgojijlbaaDoor
