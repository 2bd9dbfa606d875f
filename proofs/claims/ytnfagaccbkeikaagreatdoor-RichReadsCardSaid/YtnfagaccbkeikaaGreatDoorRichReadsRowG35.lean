/- RtRead -/
import Derived.Test.YtnfagaccbkeikaaGreatDoorRichReadsRowG30
import Derived.Test.YtnfagaccbkeikaaGreatDoorRichReadsRowG26
import Derived.Test.YtnfagaccbkeikaaGreatDoorRichReadsRowG34
/- Walks: a part is read (chandleryref08.reader's read): what is refused at once; a plain dependency. -/



namespace Go.Proofs.YtnfagaccbkeikaaGreatDoor
open Go.RowKit Go.Shelf
set_option linter.unusedVariables false

def zR : Value := .agg #[.int .u8 0, .string ⟨#[]⟩, .int .u8 0, .int .i64 0, .string ⟨#[]⟩, .string ⟨#[]⟩, .slice none 0 0]
/-- what read leaves -/
def RPost (w0 : World) (R e : Nat) (ws : List Tok) (A : Option Addr) (c : Nat) (W : World) (r : PR) (en : Ending) (w' : World) : Prop :=
  ButR R W w' ∧ match r with
  | .stop p x => en = .returned (.tuple #[zR, .int .i64 (p : Int), .int .i64 x])
  | .ok t vs n' => ∃ (rv : RV) (q' : Nat), rv.tree = t ∧ ws.drop q' = vs ∧ en = .returned (.tuple #[rv.val, .int .i64 0, .int .i64 0]) ∧ TQ (fun b => W.heap.size ≤ b ∧ b < w'.heap.size) w' rv ∧ RS w0 R e ws A c q' n' w'
def RSays (w0 : World) (R e : Nat) (ws : List Tok) (A : Option Addr) (c d o : Nat) : Prop := ∀ (q n : Nat) (W : World), n ≤ 24 → RS w0 R e ws A c q n W → Calls Tryz.prog 51 #[.pointer (some ⟨R, 0, none⟩), .int .i64 (o : Int)] W (RPost w0 R e ws A c W (partP e d (ws.drop q) n))
theorem RPost.stop {w0 : World} {R e : Nat} {ws : List Tok} {A : Option Addr} {c : Nat} {W w' : World} {r : PR} {p : Nat} {x : Int} (h : r = .stop p x) (hb : ButR R W w') : RPost w0 R e ws A c W r (.returned (.tuple #[zR, .int .i64 (p : Int), .int .i64 x])) w' := by subst h; exact ⟨hb, rfl⟩
theorem own_str (w : World) (s : ByteArray) : Own encStr 1 w.heap.size 9 (.slice (some ⟨w.heap.size, 0, none⟩) 1 1) [s] (w.alloc (.cells #[.string s] 9)) :=
  ⟨by simp [encStr], .inr ⟨w.heap.size, 1, #[.string s], rfl, Nat.le_refl _, heap_alloc_new w _, Nat.le_refl _, by decide, rfl, by simp [encStr]⟩⟩
set_option maxRecDepth 100000 in
set_option maxHeartbeats 16000000 in
theorem rtread_a {w0 : World} {R e : Nat} {ws : List Tok} {A : Option Addr} {c : Nat} {d o q n : Nat} {W : World} (h : RS w0 R e ws A c q n W) {vs : List Tok} (hvs : ws.drop q = vs) (q1 : atT vs = [] ∨ atT vs = [41]) : Calls Tryz.prog 51 #[.pointer (some ⟨R, 0, none⟩), .int .i64 (o : Int)] W (RPost w0 R e ws A c W (partP e d vs n)) := by
  have H := Lib.hid h
  have hR := h.lt
  have hb2 := h.base
  have hle := h.le
  have hlen := h.len
  have NX := Lib.hid (fun q n W (h : RS w0 R e ws A c q n W) => rtnext_any W h)
  have n1 := NX.out q n _ (h.then ((Below.refl _ _).alloc (Nat.le_refl _) (.cells #[.int .u8 0, .string ⟨#[]⟩, .int .u8 0, .int .i64 0, .string ⟨#[]⟩, .string ⟨#[]⟩, .slice none 0 0] 29)))
  rw [hvs] at n1
  obtain ⟨s, hs⟩ : ∃ s, s = bs (atT vs) := ⟨_, rfl⟩
  have hsl : s.toList = atT vs := by rw [hs, bs_toList]
  obtain ⟨pl, hpl⟩ : ∃ pl, pl = atPl e vs := ⟨_, rfl⟩
  rw [← hs, ← hpl] at n1
  have N1 := Lib.hid n1
  have X0 := Lib.hid (show zBox W.heap.size (W.alloc (.cells #[.int .u8 0, .string ⟨#[]⟩, .int .u8 0, .int .i64 0, .string ⟨#[]⟩, .string ⟨#[]⟩, .slice none 0 0] 29)) from Box7.new W _ _ _ _ _ _ _ _)
  clear n1
  have HR := Lib.hid (show partP e d vs n = .stop pl 4 by rw [hpl]; exact part_stops (d := d) (head_a (e := e) (n := n) q1))
  rcases q1 with q1 | q1
  · obtain rfl : s = ⟨#[]⟩ := by rw [hs, q1]; rfl
    clear h hvs hs hsl hpl q1 hle
    go_enter Tryz.func51, Tryz.ntmps51
    go_wp2_with fail
    go_at_call 90
    refine N1.out.mono ?_
    rintro en w1 ⟨rfl, hb1⟩
    have S1 := Lib.hid ((H.out.then ((Below.refl _ _).alloc (Nat.le_refl _) _)).then hb1)
    have X1 := Lib.hid (show zBox W.heap.size w1 from X0.out.past (hb1.mono (by simp)))
    have B1 := Lib.hid (((ButR.refl R W).alloc _).trans (.of hb1))
    have z1 := hb1.size
    rw [World.size_alloc] at z1
    have c2 := S1.out.c2
    have c3 := S1.out.c3
    have f2' := S1.out.f2
    have f3' := S1.out.f3
    have c0 := S1.out.c0
    clear hb1 N1 X0
    obtain ⟨⟨h0, h1, h2, h3, h4, h5, h6⟩, ⟨k0, k1, k2, k3, k4, k5, k6⟩, hl⟩ := X1.out
    go_wp2_with fail
    have XF := X1.out.store (.int .u8 0) (.string ⟨#[]⟩) (.int .u8 0) (.int .i64 0) (.string ⟨#[]⟩) (.string ⟨#[]⟩) (.slice none 0 0)
    unfold store7 at XF
    obtain ⟨⟨j0, j1, j2, j3, j4, j5, j6⟩, _⟩ := XF
    refine bodyPost_ret (v := .tuple #[zR, .int .i64 (pl : Int), .int .i64 4]) (by simp [zR, results, Tryz.results51, go_sem, j0, j1, j2, j3, j4, j5, j6]; try rfl) rfl ?_
    exact RPost.stop HR.out (store7_but (Nat.le_refl _) B1.out _ _ _ _ _ _ _)
  · have t1 : (s.toList == [41]) = true := by rw [hsl, q1]; decide
    have t0 : s.toList.isEmpty = false := by rw [hsl, q1]; rfl
    clear h hvs hs hsl hpl q1 hle
    go_enter Tryz.func51, Tryz.ntmps51
    go_wp2_with fail
    go_at_call 90
    refine N1.out.mono ?_
    rintro en w1 ⟨rfl, hb1⟩
    have S1 := Lib.hid ((H.out.then ((Below.refl _ _).alloc (Nat.le_refl _) _)).then hb1)
    have X1 := Lib.hid (show zBox W.heap.size w1 from X0.out.past (hb1.mono (by simp)))
    have B1 := Lib.hid (((ButR.refl R W).alloc _).trans (.of hb1))
    have z1 := hb1.size
    rw [World.size_alloc] at z1
    have c2 := S1.out.c2
    have c3 := S1.out.c3
    have f2' := S1.out.f2
    have f3' := S1.out.f3
    have c0 := S1.out.c0
    clear hb1 N1 X0
    obtain ⟨⟨h0, h1, h2, h3, h4, h5, h6⟩, ⟨k0, k1, k2, k3, k4, k5, k6⟩, hl⟩ := X1.out
    go_wp2_with fail
    have XF := X1.out.store (.int .u8 0) (.string ⟨#[]⟩) (.int .u8 0) (.int .i64 0) (.string ⟨#[]⟩) (.string ⟨#[]⟩) (.slice none 0 0)
    unfold store7 at XF
    obtain ⟨⟨j0, j1, j2, j3, j4, j5, j6⟩, _⟩ := XF
    refine bodyPost_ret (v := .tuple #[zR, .int .i64 (pl : Int), .int .i64 4]) (by simp [zR, results, Tryz.results51, go_sem, j0, j1, j2, j3, j4, j5, j6]; try rfl) rfl ?_
    exact RPost.stop HR.out (store7_but (Nat.le_refl _) B1.out _ _ _ _ _ _ _)
set_option maxRecDepth 100000 in
set_option maxHeartbeats 16000000 in
theorem rtread_b {w0 : World} {R e : Nat} {ws : List Tok} {A : Option Addr} {c : Nat} {d o q n : Nat} {W : World} (h : RS w0 R e ws A c q n W) {vs : List Tok} (hvs : ws.drop q = vs) (q2 : atT vs = [40]) : Calls Tryz.prog 51 #[.pointer (some ⟨R, 0, none⟩), .int .i64 8] W (RPost w0 R e ws A c W (partP e 0 vs n)) := by
  have H := Lib.hid h
  have hR := h.lt
  have hb2 := h.base
  have hle := h.le
  have hlen := h.len
  have NX := Lib.hid (fun q n W (h : RS w0 R e ws A c q n W) => rtnext_any W h)
  have n1 := NX.out q n _ (h.then ((Below.refl _ _).alloc (Nat.le_refl _) (.cells #[.int .u8 0, .string ⟨#[]⟩, .int .u8 0, .int .i64 0, .string ⟨#[]⟩, .string ⟨#[]⟩, .slice none 0 0] 29)))
  rw [hvs] at n1
  obtain ⟨s, hs⟩ : ∃ s, s = bs (atT vs) := ⟨_, rfl⟩
  have hsl : s.toList = atT vs := by rw [hs, bs_toList]
  obtain ⟨pl, hpl⟩ : ∃ pl, pl = atPl e vs := ⟨_, rfl⟩
  rw [← hs, ← hpl] at n1
  have N1 := Lib.hid n1
  have X0 := Lib.hid (show zBox W.heap.size (W.alloc (.cells #[.int .u8 0, .string ⟨#[]⟩, .int .u8 0, .int .i64 0, .string ⟨#[]⟩, .string ⟨#[]⟩, .slice none 0 0] 29)) from Box7.new W _ _ _ _ _ _ _ _)
  clear n1
  have HR := Lib.hid (show partP e 0 vs n = .stop pl 21 by rw [hpl]; exact part_stops (d := 0) (head_b (e := e) (n := n) q2))
  have t1 : (s.toList == [41]) = false := by rw [hsl, q2]; decide
  have t0 : s.toList.isEmpty = false := by rw [hsl, q2]; rfl
  have t2 : (s.toList == [40]) = true := by rw [hsl, q2]; decide
  clear h hvs hs hsl hpl q2 hle
  go_enter Tryz.func51, Tryz.ntmps51
  go_wp2_with fail
  go_at_call 90
  refine N1.out.mono ?_
  rintro en w1 ⟨rfl, hb1⟩
  have S1 := Lib.hid ((H.out.then ((Below.refl _ _).alloc (Nat.le_refl _) _)).then hb1)
  have X1 := Lib.hid (show zBox W.heap.size w1 from X0.out.past (hb1.mono (by simp)))
  have B1 := Lib.hid (((ButR.refl R W).alloc _).trans (.of hb1))
  have z1 := hb1.size
  rw [World.size_alloc] at z1
  have c2 := S1.out.c2
  have c3 := S1.out.c3
  have f2' := S1.out.f2
  have f3' := S1.out.f3
  have c0 := S1.out.c0
  clear hb1 N1 X0
  obtain ⟨⟨h0, h1, h2, h3, h4, h5, h6⟩, ⟨k0, k1, k2, k3, k4, k5, k6⟩, hl⟩ := X1.out
  go_wp2_with fail
  have XF := X1.out.store (.int .u8 0) (.string ⟨#[]⟩) (.int .u8 0) (.int .i64 0) (.string ⟨#[]⟩) (.string ⟨#[]⟩) (.slice none 0 0)
  unfold store7 at XF
  obtain ⟨⟨j0, j1, j2, j3, j4, j5, j6⟩, _⟩ := XF
  refine bodyPost_ret (v := .tuple #[zR, .int .i64 (pl : Int), .int .i64 21]) (by simp [zR, results, Tryz.results51, go_sem, j0, j1, j2, j3, j4, j5, j6]; try rfl) rfl ?_
  exact RPost.stop HR.out (store7_but (Nat.le_refl _) B1.out _ _ _ _ _ _ _)
set_option maxRecDepth 100000 in
set_option maxHeartbeats 16000000 in
theorem rtread_c {w0 : World} {R e : Nat} {ws : List Tok} {A : Option Addr} {c : Nat} {d o q n : Nat} {W : World} (h : RS w0 R e ws A c q 24 W) {vs : List Tok} (hvs : ws.drop q = vs) (hd : d + o = 8) (q1 : ¬ (atT vs = [] ∨ atT vs = [41])) (ql : ¬ (atT vs = [40] ∧ (d == 0) = true)) : Calls Tryz.prog 51 #[.pointer (some ⟨R, 0, none⟩), .int .i64 (o : Int)] W (RPost w0 R e ws A c W (partP e d vs 24)) := by
  have H := Lib.hid h
  have hR := h.lt
  have hb2 := h.base
  have hle := h.le
  have hlen := h.len
  have NX := Lib.hid (fun q n W (h : RS w0 R e ws A c q n W) => rtnext_any W h)
  have n1 := NX.out q 24 _ (h.then ((Below.refl _ _).alloc (Nat.le_refl _) (.cells #[.int .u8 0, .string ⟨#[]⟩, .int .u8 0, .int .i64 0, .string ⟨#[]⟩, .string ⟨#[]⟩, .slice none 0 0] 29)))
  rw [hvs] at n1
  obtain ⟨s, hs⟩ : ∃ s, s = bs (atT vs) := ⟨_, rfl⟩
  have hsl : s.toList = atT vs := by rw [hs, bs_toList]
  obtain ⟨pl, hpl⟩ : ∃ pl, pl = atPl e vs := ⟨_, rfl⟩
  rw [← hs, ← hpl] at n1
  have N1 := Lib.hid n1
  have X0 := Lib.hid (show zBox W.heap.size (W.alloc (.cells #[.int .u8 0, .string ⟨#[]⟩, .int .u8 0, .int .i64 0, .string ⟨#[]⟩, .string ⟨#[]⟩, .slice none 0 0] 29)) from Box7.new W _ _ _ _ _ _ _ _)
  clear n1
  have HR := Lib.hid (show partP e d vs 24 = .stop pl 40 by rw [hpl]; exact part_stops (d := d) (head_c (e := e) q1 ql rfl))
  have t0 : s.toList.isEmpty = false := by
    rw [hsl]; cases he : (atT vs).isEmpty with
    | false => rfl
    | true => exact absurd (.inl (List.isEmpty_iff.1 he)) q1
  have t1 : (s.toList == [41]) = false := by rw [hsl]; simp only [beq_eq_false_iff_ne]; exact fun he => q1 (.inr he)
  by_cases q2 : atT vs = [40]
  · have t2 : (s.toList == [40]) = true := by rw [hsl, q2]; decide
    have t3 : ((o : Int) == 8) = false := by simp only [beq_eq_false_iff_ne]; intro hh; exact ql ⟨q2, by simp; omega⟩
    clear h hvs hs hsl hpl q1 q2 ql hle hd
    go_enter Tryz.func51, Tryz.ntmps51
    go_wp2_with fail
    go_at_call 90
    refine N1.out.mono ?_
    rintro en w1 ⟨rfl, hb1⟩
    have S1 := Lib.hid ((H.out.then ((Below.refl _ _).alloc (Nat.le_refl _) _)).then hb1)
    have X1 := Lib.hid (show zBox W.heap.size w1 from X0.out.past (hb1.mono (by simp)))
    have B1 := Lib.hid (((ButR.refl R W).alloc _).trans (.of hb1))
    have z1 := hb1.size
    rw [World.size_alloc] at z1
    have c2 := S1.out.c2
    have c3 := S1.out.c3
    have f2' := S1.out.f2
    have f3' := S1.out.f3
    have c0 := S1.out.c0
    clear hb1 N1 X0
    obtain ⟨⟨h0, h1, h2, h3, h4, h5, h6⟩, ⟨k0, k1, k2, k3, k4, k5, k6⟩, hl⟩ := X1.out
    go_wp2_with fail
    have X2 := Lib.hid (X1.out.butR ((ButR.refl R w1).set 3 (.int .i64 25)) (by omega))
    have B2 := Lib.hid (B1.out.set 3 (.int .i64 25))
    have XF := X2.out.store (.int .u8 0) (.string ⟨#[]⟩) (.int .u8 0) (.int .i64 0) (.string ⟨#[]⟩) (.string ⟨#[]⟩) (.slice none 0 0)
    unfold store7 at XF
    obtain ⟨⟨j0, j1, j2, j3, j4, j5, j6⟩, _⟩ := XF
    refine bodyPost_ret (v := .tuple #[zR, .int .i64 (pl : Int), .int .i64 40]) (by simp [zR, results, Tryz.results51, go_sem, j0, j1, j2, j3, j4, j5, j6]; try rfl) rfl ?_
    exact RPost.stop HR.out (store7_but (Nat.le_refl _) B2.out _ _ _ _ _ _ _)
  · have t2 : (s.toList == [40]) = false := by rw [hsl]; simp only [beq_eq_false_iff_ne]; exact q2
    clear h hvs hs hsl hpl q1 q2 ql hle hd
    go_enter Tryz.func51, Tryz.ntmps51
    go_wp2_with fail
    go_at_call 90
    refine N1.out.mono ?_
    rintro en w1 ⟨rfl, hb1⟩
    have S1 := Lib.hid ((H.out.then ((Below.refl _ _).alloc (Nat.le_refl _) _)).then hb1)
    have X1 := Lib.hid (show zBox W.heap.size w1 from X0.out.past (hb1.mono (by simp)))
    have B1 := Lib.hid (((ButR.refl R W).alloc _).trans (.of hb1))
    have z1 := hb1.size
    rw [World.size_alloc] at z1
    have c2 := S1.out.c2
    have c3 := S1.out.c3
    have f2' := S1.out.f2
    have f3' := S1.out.f3
    have c0 := S1.out.c0
    clear hb1 N1 X0
    obtain ⟨⟨h0, h1, h2, h3, h4, h5, h6⟩, ⟨k0, k1, k2, k3, k4, k5, k6⟩, hl⟩ := X1.out
    go_wp2_with fail
    have X2 := Lib.hid (X1.out.butR ((ButR.refl R w1).set 3 (.int .i64 25)) (by omega))
    have B2 := Lib.hid (B1.out.set 3 (.int .i64 25))
    have XF := X2.out.store (.int .u8 0) (.string ⟨#[]⟩) (.int .u8 0) (.int .i64 0) (.string ⟨#[]⟩) (.string ⟨#[]⟩) (.slice none 0 0)
    unfold store7 at XF
    obtain ⟨⟨j0, j1, j2, j3, j4, j5, j6⟩, _⟩ := XF
    refine bodyPost_ret (v := .tuple #[zR, .int .i64 (pl : Int), .int .i64 40]) (by simp [zR, results, Tryz.results51, go_sem, j0, j1, j2, j3, j4, j5, j6]; try rfl) rfl ?_
    exact RPost.stop HR.out (store7_but (Nat.le_refl _) B2.out _ _ _ _ _ _ _)
set_option maxRecDepth 100000 in
set_option maxHeartbeats 16000000 in
theorem rtread_d {w0 : World} {R e : Nat} {ws : List Tok} {A : Option Addr} {c : Nat} {d o q n : Nat} {W : World} (h : RS w0 R e ws A c q n W) {vs : List Tok} (hvs : ws.drop q = vs) (hn : n ≤ 24) (q1 : ¬ (atT vs = [] ∨ atT vs = [41])) (q2 : atT vs ≠ [40]) (q4 : n ≠ 24) : Calls Tryz.prog 51 #[.pointer (some ⟨R, 0, none⟩), .int .i64 (o : Int)] W (RPost w0 R e ws A c W (partP e d vs n)) := by
  have H := Lib.hid h
  have hR := h.lt
  have hb2 := h.base
  have hle := h.le
  have hlen := h.len
  have NX := Lib.hid (fun q n W (h : RS w0 R e ws A c q n W) => rtnext_any W h)
  have n1 := NX.out q n _ (h.then ((Below.refl _ _).alloc (Nat.le_refl _) (.cells #[.int .u8 0, .string ⟨#[]⟩, .int .u8 0, .int .i64 0, .string ⟨#[]⟩, .string ⟨#[]⟩, .slice none 0 0] 29)))
  rw [hvs] at n1
  obtain ⟨s, hs⟩ : ∃ s, s = bs (atT vs) := ⟨_, rfl⟩
  have hsl : s.toList = atT vs := by rw [hs, bs_toList]
  obtain ⟨pl, hpl⟩ : ∃ pl, pl = atPl e vs := ⟨_, rfl⟩
  rw [← hs, ← hpl] at n1
  have N1 := Lib.hid n1
  have X0 := Lib.hid (show zBox W.heap.size (W.alloc (.cells #[.int .u8 0, .string ⟨#[]⟩, .int .u8 0, .int .i64 0, .string ⟨#[]⟩, .string ⟨#[]⟩, .slice none 0 0] 29)) from Box7.new W _ _ _ _ _ _ _ _)
  clear n1
  obtain ⟨x, vs', rfl⟩ : ∃ x vs', vs = x :: vs' := by
    cases vs with
    | nil => exact absurd (.inl rfl) q1
    | cons x vs' => exact ⟨x, vs', rfl⟩
  obtain ⟨hq, hx, hdr⟩ := drop_cons hvs
  have t0 : s.toList.isEmpty = false := by
    rw [hsl]; cases he : (atT (x :: vs')).isEmpty with
    | false => rfl
    | true => exact absurd (.inl (List.isEmpty_iff.1 he)) q1
  have t1 : (s.toList == [41]) = false := by rw [hsl]; simp only [beq_eq_false_iff_ne]; exact fun he => q1 (.inr he)
  have t2 : (s.toList == [40]) = false := by rw [hsl]; simp only [beq_eq_false_iff_ne]; exact q2
  have t3 : (s.toList != [40]) = true := by simp only [bne, t2, Bool.not_false]
  have HPP := Lib.hid (show partP e d (x :: vs') n = plainP e (x :: vs') n from partP_plain (head_d q1 (fun hh => q2 hh.1) q4) q2)
  have HPL := Lib.hid (show pl = atPl e (x :: vs') from hpl)
  have g1 : (n : Int) ≤ 23 := by omega
  have qb : (q : Int) ≤ 10000 := by omega
  have qb0 : (0 : Int) ≤ (q : Int) := by omega
  have HSL := Lib.hid (show s.toList = x.2 from hsl)
  have HDR := Lib.hid hdr
  have HQ := Lib.hid hq
  have HSM := Lib.hid h.small
  have hss := (h.small x (by rw [← hx]; exact List.getElem_mem hq)).1
  have HSZ := Lib.hid (show s.size ≤ 4000000000 by rw [hs, bs_size]; show x.2.length ≤ _; omega)
  obtain ⟨s2, hs2⟩ : ∃ s2, s2 = bs (atT vs') := ⟨_, rfl⟩
  have hs2l : s2.toList = atT vs' := by rw [hs2, bs_toList]
  obtain ⟨op, is, hop⟩ : ∃ op is, opOf s2.toList = (op, is) := ⟨_, _, rfl⟩
  have HPN0 := Lib.hid (show plainN (x :: vs') = if (is && !(op == 0)) = true then 3 else 1 by unfold plainN isOp; rw [List.tail_cons, ← hs2l, hop])
  have NX2 := Lib.hid (fun (n : Nat) (W : World) (hh : RS w0 R e ws A c (q + 1) n W) => (show Calls Tryz.prog 90 #[.pointer (some ⟨R, 0, none⟩)] W fun en w' => en = .returned (.tuple #[.string s2, .int .i64 (atPl e vs' : Int)]) ∧ Below W.heap.size W w' by have := NX.out (q + 1) n W hh; rw [hdr, ← hs2] at this; exact this))
  have OP := Lib.hid (fun W => (show Calls Tryz.prog 91 #[.string s2] W fun en w' => en = .returned (.tuple #[.int .u8 op, .bool is]) ∧ W = w' by have := ropParse_any s2 W; rw [hop] at this; exact this))
  have HS2 := Lib.hid hs2
  have HS2L := Lib.hid hs2l
  have HOPP := Lib.hid hop
  obtain ⟨pl2, hpl2⟩ : ∃ pl2, pl2 = atPl e vs' := ⟨_, rfl⟩
  rw [← hpl2] at NX2
  clear hpl2
  clear h hvs hs hsl hpl q1 q2 q4 hq hx hdr hss hs2 hs2l hop hle
  go_enter Tryz.func51, Tryz.ntmps51
  go_wp2_with fail
  go_at_call 90
  refine N1.out.mono ?_
  rintro en w1 ⟨rfl, hb1⟩
  have S1 := Lib.hid ((H.out.then ((Below.refl _ _).alloc (Nat.le_refl _) _)).then hb1)
  have X1 := Lib.hid (show zBox W.heap.size w1 from X0.out.past (hb1.mono (by simp)))
  have B1 := Lib.hid (((ButR.refl R W).alloc _).trans (.of hb1))
  have z1 := hb1.size
  rw [World.size_alloc] at z1
  have c2 := S1.out.c2
  have c3 := S1.out.c3
  have f2' := S1.out.f2
  have f3' := S1.out.f3
  have c0 := S1.out.c0
  clear hb1 N1 X0
  obtain ⟨⟨h0, h1, h2, h3, h4, h5, h6⟩, ⟨k0, k1, k2, k3, k4, k5, k6⟩, hl⟩ := X1.out
  go_wp2_with fail
  go_at_call 90
  have e1 : (((n + 1 : Nat)) : Int) = (n : Int) + 1 := by omega
  have e2 : (((q + 1 : Nat)) : Int) = (q : Int) + 1 := by omega
  have S2 := (S1.out.setN (n + 1)).setAt (q + 1) HQ.out
  rw [e1, e2] at S2
  have X2 := Lib.hid (show zBox W.heap.size ((w1.setCell ⟨R, 3, none⟩ (.int .i64 ((n : Int) + 1))).setCell ⟨R, 2, none⟩ (.int .i64 ((q : Int) + 1))) from (X1.out.butR ((ButR.refl R _).set 3 _) (by omega)).butR ((ButR.refl R _).set 2 _) (by omega))
  have B2 := Lib.hid ((B1.out.set 3 (.int .i64 ((n : Int) + 1))).set 2 (.int .i64 ((q : Int) + 1)))
  have z2 : W.heap.size + 1 ≤ ((w1.setCell ⟨R, 3, none⟩ (.int .i64 ((n : Int) + 1))).setCell ⟨R, 2, none⟩ (.int .i64 ((q : Int) + 1))).heap.size := by simpa [World.setCell] using z1
  have hzz : ((w1.setCell ⟨R, 3, none⟩ (.int .i64 ((n : Int) + 1))).setCell ⟨R, 2, none⟩ (.int .i64 ((q : Int) + 1))).heap.size = w1.heap.size := by simp [World.setCell]
  generalize (w1.setCell ⟨R, 3, none⟩ (.int .i64 ((n : Int) + 1))).setCell ⟨R, 2, none⟩ (.int .i64 ((q : Int) + 1)) = w2 at *
  have O2 := own_str w2 s
  rw [hzz] at O2 z2
  have S3 := S2.then ((Below.refl _ _).alloc (Nat.le_refl _) (.cells #[.string s] 9))
  refine (NX2.out _ _ S3).mono ?_
  rintro en w3 ⟨rfl, hb3⟩
  have S4 := Lib.hid (S3.then hb3)
  have O4 := Own.below O2 hb3 (Nat.le_refl _)
  have X4 := Lib.hid (show zBox W.heap.size w3 from (X2.out.past ((Below.refl _ _).alloc (by rw [hzz]; exact z2) _)).past (hb3.mono (by rw [World.size_alloc, hzz]; omega)))
  have B4 := Lib.hid ((B2.out.alloc _).then hb3)
  have z3 := hb3.size
  rw [World.size_alloc, hzz] at z3
  clear hb3 O2 S2 S3 h0 h1 h2 h3 h4 h5 h6 k0 k1 k2 k3 k4 k5 k6 hl c0 c2 c3 f2' f3' X1 B1 S1 NX2 hzz
  go_wp2_with fail
  go_at_call 91
  refine (OP.out _).mono ?_
  rintro en w4 ⟨rfl, rfl⟩
  obtain ⟨b, hb⟩ : ∃ b, b = (is && !(op == 0)) := ⟨_, rfl⟩
  rw [← hb] at HPN0
  cases b
  · have HPN := Lib.hid (show (x :: vs').take (plainN (x :: vs')) = [x] by rw [HPN0.out]; rfl)
    have HTX := Lib.hid (show txt ((x :: vs').take (plainN (x :: vs'))) = [s].map (·.toList) by rw [HPN.out, List.map_cons, List.map_nil, HSL.out]; rfl)
    have OF := Lib.hid (rdof_any (some ⟨w1.heap.size, 0, none⟩) 1 [s] w3 (by simp) (by intro t ht; simp at ht; subst ht; exact HSZ.out) (by obtain ⟨A', c', e', ht⟩ := TR.of_own O4; cases e'; exact ht))
    have HDD := Lib.hid (show (x :: vs').drop (plainN (x :: vs')) = ws.drop (q + 1) by rw [HPN0.out]; exact HDR.out.symm)
    have HPN := Lib.hid (show dpOf (txt ((x :: vs').take (plainN (x :: vs')))) = dpOf ([s].map (·.toList)) by rw [HTX.out])
    clear HTX O4
    cases is
    · clear hb
      go_wp2_with fail
      go_at_call 92
      refine (OF.out).mono ?_
      rintro en w9 ⟨rfl, hb9⟩
      have S9 := Lib.hid (S4.out.then hb9)
      have X9 := Lib.hid (show zBox W.heap.size w9 from X4.out.past (hb9.mono (by omega)))
      have B9 := Lib.hid (B4.out.then hb9)
      have z9 := hb9.size
      clear hb9
      obtain ⟨⟨h0, h1, h2, h3, h4, h5, h6⟩, ⟨k0, k1, k2, k3, k4, k5, k6⟩, hl⟩ := X9.out
      cases hdp : dpOf ([s].map (·.toList)) with
      | none =>
        have HRR := Lib.hid (show partP e d (x :: vs') n = .stop pl 4 by rw [HPP.out]; unfold plainP; rw [HPN.out, hdp, HPL.out])
        rw [ofV_none]
        unfold ZV
        clear hdp
        go_wp2_with fail
        have XF := (X9.out.store (.int .u8 0) (.string ⟨#[]⟩) (.int .u8 0) (.int .i64 0) (.string ⟨#[]⟩) (.string ⟨#[]⟩) (.slice none 0 0)).past ((Below.refl _ _).alloc (by rw [store7_size]; exact hl) (.cells #[.string ⟨#[]⟩, .int .u8 0, .int .i64 0, .string ⟨#[]⟩, .string ⟨#[]⟩] 26))
        unfold store7 at XF
        obtain ⟨⟨j0, j1, j2, j3, j4, j5, j6⟩, _⟩ := XF
        refine bodyPost_ret (v := .tuple #[zR, .int .i64 (pl : Int), .int .i64 4]) (by simp [zR, results, Tryz.results51, go_sem, j0, j1, j2, j3, j4, j5, j6]; try rfl) rfl ?_
        exact RPost.stop HRR.out ((store7_but (Nat.le_refl _) B9.out _ _ _ _ _ _ _).alloc _)
      | some dd =>
        have hm := (words_dpOf hdp).1
        have HM := Lib.hid (dmay_wf hm)
        have HRR := Lib.hid (show partP e d (x :: vs') n = .ok (.mk 1 dd []) (ws.drop (q + 1)) (n + 1) by rw [HPP.out]; unfold plainP; rw [HPN.out, hdp]; simp only; rw [HDD.out])
        unfold ofV
        dsimp only
        unfold Dp.val
        clear hdp hm
        go_wp2_with fail
        have XF := (X9.out.store (.int .u8 1) (.string (bs dd.name)) (.int .u8 dd.op) (.int .i64 dd.evr.epoch) (.string (bs dd.evr.ver)) (.string (bs dd.evr.rel)) (.slice none 0 0)).past ((Below.refl _ _).alloc (by rw [store7_size]; exact hl) (.cells #[.string (bs dd.name), .int .u8 dd.op, .int .i64 dd.evr.epoch, .string (bs dd.evr.ver), .string (bs dd.evr.rel)] 26))
        unfold store7 at XF
        obtain ⟨⟨j0, j1, j2, j3, j4, j5, j6⟩, _⟩ := XF
        refine bodyPost_ret (v := .tuple #[(atomV dd).val, .int .i64 0, .int .i64 0]) (by simp [RV.val, atomV, RV.kind, RV.dep, RV.addr, RV.args, RV.cap, results, Tryz.results51, go_sem, j0, j1, j2, j3, j4, j5, j6]; try rfl) rfl ?_
        rw [HRR.out]
        exact ⟨(store7_but (Nat.le_refl _) B9.out _ _ _ _ _ _ _).alloc _, atomV dd, q + 1, rfl, rfl, rfl, atomV_tq HM.out, (S9.out.past (store7_below (by omega) (Below.refl _ _) _ _ _ _ _ _ _)).then ((Below.refl _ _).alloc (Nat.le_refl _) _)⟩
    · have o1 : (op == 0) = true := by simpa using hb.symm
      have o2 : (op != 0) = false := by simp only [bne, o1, Bool.not_true]
      clear hb
      go_wp2_with fail
      go_at_call 92
      refine (OF.out).mono ?_
      rintro en w9 ⟨rfl, hb9⟩
      have S9 := Lib.hid (S4.out.then hb9)
      have X9 := Lib.hid (show zBox W.heap.size w9 from X4.out.past (hb9.mono (by omega)))
      have B9 := Lib.hid (B4.out.then hb9)
      have z9 := hb9.size
      clear hb9
      obtain ⟨⟨h0, h1, h2, h3, h4, h5, h6⟩, ⟨k0, k1, k2, k3, k4, k5, k6⟩, hl⟩ := X9.out
      cases hdp : dpOf ([s].map (·.toList)) with
      | none =>
        have HRR := Lib.hid (show partP e d (x :: vs') n = .stop pl 4 by rw [HPP.out]; unfold plainP; rw [HPN.out, hdp, HPL.out])
        rw [ofV_none]
        unfold ZV
        clear hdp
        go_wp2_with fail
        have XF := (X9.out.store (.int .u8 0) (.string ⟨#[]⟩) (.int .u8 0) (.int .i64 0) (.string ⟨#[]⟩) (.string ⟨#[]⟩) (.slice none 0 0)).past ((Below.refl _ _).alloc (by rw [store7_size]; exact hl) (.cells #[.string ⟨#[]⟩, .int .u8 0, .int .i64 0, .string ⟨#[]⟩, .string ⟨#[]⟩] 26))
        unfold store7 at XF
        obtain ⟨⟨j0, j1, j2, j3, j4, j5, j6⟩, _⟩ := XF
        refine bodyPost_ret (v := .tuple #[zR, .int .i64 (pl : Int), .int .i64 4]) (by simp [zR, results, Tryz.results51, go_sem, j0, j1, j2, j3, j4, j5, j6]; try rfl) rfl ?_
        exact RPost.stop HRR.out ((store7_but (Nat.le_refl _) B9.out _ _ _ _ _ _ _).alloc _)
      | some dd =>
        have hm := (words_dpOf hdp).1
        have HM := Lib.hid (dmay_wf hm)
        have HRR := Lib.hid (show partP e d (x :: vs') n = .ok (.mk 1 dd []) (ws.drop (q + 1)) (n + 1) by rw [HPP.out]; unfold plainP; rw [HPN.out, hdp]; simp only; rw [HDD.out])
        unfold ofV
        dsimp only
        unfold Dp.val
        clear hdp hm
        go_wp2_with fail
        have XF := (X9.out.store (.int .u8 1) (.string (bs dd.name)) (.int .u8 dd.op) (.int .i64 dd.evr.epoch) (.string (bs dd.evr.ver)) (.string (bs dd.evr.rel)) (.slice none 0 0)).past ((Below.refl _ _).alloc (by rw [store7_size]; exact hl) (.cells #[.string (bs dd.name), .int .u8 dd.op, .int .i64 dd.evr.epoch, .string (bs dd.evr.ver), .string (bs dd.evr.rel)] 26))
        unfold store7 at XF
        obtain ⟨⟨j0, j1, j2, j3, j4, j5, j6⟩, _⟩ := XF
        refine bodyPost_ret (v := .tuple #[(atomV dd).val, .int .i64 0, .int .i64 0]) (by simp [RV.val, atomV, RV.kind, RV.dep, RV.addr, RV.args, RV.cap, results, Tryz.results51, go_sem, j0, j1, j2, j3, j4, j5, j6]; try rfl) rfl ?_
        rw [HRR.out]
        exact ⟨(store7_but (Nat.le_refl _) B9.out _ _ _ _ _ _ _).alloc _, atomV dd, q + 1, rfl, rfl, rfl, atomV_tq HM.out, (S9.out.past (store7_below (by omega) (Below.refl _ _) _ _ _ _ _ _ _)).then ((Below.refl _ _).alloc (Nat.le_refl _) _)⟩
  · have his : is = true := by cases is <;> simp at hb ⊢
    subst his
    have o1 : (op == 0) = false := by cases h0 : (op == 0) <;> simp [h0] at hb ⊢
    have o2 : (op != 0) = true := by simp only [bne, o1, Bool.not_false]
    clear hb
    obtain ⟨y, vs2, rfl⟩ : ∃ y vs2, vs' = y :: vs2 := by
      cases vs' with
      | cons y vs2 => exact ⟨y, vs2, rfl⟩
      | nil =>
        exfalso
        have h1 := HOPP.out
        rw [HS2L.out] at h1
        have h2 : opOf [] = (0, true) := by decide
        rw [show atT [] = [] from rfl, h2] at h1
        have h3 := (Prod.mk.inj h1).1
        rw [← h3] at o1
        cases o1
    obtain ⟨hq2, hy, hdr2⟩ := drop_cons HDR.out
    have HQ2 := Lib.hid hq2
    have HDR2 := Lib.hid hdr2
    have HSZ2 := Lib.hid (show s2.size ≤ 4000000000 by rw [HS2.out, bs_size]; have := (HSM.out y (by rw [← hy]; exact List.getElem_mem hq2)).1; show y.2.length ≤ _; omega)
    have HSL2 := Lib.hid (show s2.toList = y.2 from HS2L.out)
    clear hq2 hy hdr2
    obtain ⟨s3, hs3⟩ : ∃ s3, s3 = bs (atT vs2) := ⟨_, rfl⟩
    obtain ⟨pl3, hpl3⟩ : ∃ pl3, pl3 = atPl e vs2 := ⟨_, rfl⟩
    have NX3 := Lib.hid (fun (n : Nat) (W : World) (hh : RS w0 R e ws A c (q + 2) n W) => (show Calls Tryz.prog 90 #[.pointer (some ⟨R, 0, none⟩)] W fun en w' => en = .returned (.tuple #[.string s3, .int .i64 (pl3 : Int)]) ∧ Below W.heap.size W w' by have := NX.out (q + 2) n W hh; rw [HDR2.out, ← hs3, ← hpl3] at this; exact this))
    have HS3 := Lib.hid hs3
    clear hs3 hpl3
    have g0 : W.heap.size + 1 ≤ w1.heap.size := z1
    go_wp2_with (at_builtin; refine wpList_append_tr (P := Tryz.prog) _ rfl _ _ 36 rfl w1.heap.size 9 _ (by rfl) (by rfl) (by rfl) (by rfl) (by rfl) _ _ _ rfl (World.ownsRow.alloc O4 _) (some ⟨w3.heap.size, 0, none⟩) 1 [s2] _ rfl rfl (TR.new w3 [s2] _) (by simp [maxLen]) (by simp) (by simp; omega) ?_; intro v5 w5 ho5 hg5 hv5; have B5 : Below (W.heap.size + 1) (w3.alloc (.cells #[.string s2] 9)) w5 := (Below.refl _ _).grown hg5 (by simp; omega) (fun k hk => Nat.le_trans g0 (World.ownsRow.lt O4 k hk).1); have S5 := Lib.hid ((S4.out.then ((Below.refl _ _).alloc (Nat.le_refl _) (.cells #[.string s2] 9))).past (B5.mono (by omega))); have X5 := Lib.hid (show zBox W.heap.size w5 from (X4.out.past ((Below.refl _ _).alloc (by omega) _)).past B5); have BB5 := Lib.hid ((B4.out.alloc (.cells #[.string s2] 9)).grown hg5 (fun k hk => by have := (World.ownsRow.lt O4 k hk).1; omega)); have O5 : Own encStr 1 w1.heap.size 9 v5 [s, s2] w5 := own_app (X := [s]) (Y := [s2]) ho5 rfl rfl; obtain ⟨A5, c5, rfl⟩ := own_shape ho5; have z5 := hg5.size; rw [World.size_alloc] at z5; have d2 := S5.out.c2; have d2f := S5.out.f2; have d0 := S5.out.c0; rw [show ((q + 1 : Nat) : Int) = (q : Int) + 1 by omega] at d2; clear ho5 hg5 hv5 B5)
    go_at_call 90
    have e3 : (((q + 2 : Nat)) : Int) = (q : Int) + 1 + 1 := by omega
    have S6 := S5.out.setAt (q + 2) HQ2.out
    rw [e3] at S6
    have X6 := Lib.hid (show zBox W.heap.size (w5.setCell ⟨R, 2, none⟩ (.int .i64 ((q : Int) + 1 + 1))) from X5.out.butR ((ButR.refl R _).set 2 _) (by omega))
    have B6 := Lib.hid (BB5.out.set 2 (.int .i64 ((q : Int) + 1 + 1)))
    have O6 : Own encStr 1 w1.heap.size 9 (.slice A5 2 c5) [s, s2] (w5.setCell ⟨R, 2, none⟩ (.int .i64 ((q : Int) + 1 + 1))) := O5.butR ((ButR.refl R _).set 2 _) (by omega)
    have z6 : w5.heap.size ≤ (w5.setCell ⟨R, 2, none⟩ (.int .i64 ((q : Int) + 1 + 1))).heap.size := by simp [World.setCell]
    generalize w5.setCell ⟨R, 2, none⟩ (.int .i64 ((q : Int) + 1 + 1)) = w6 at *
    refine (NX3.out _ _ S6).mono ?_
    rintro en w7 ⟨rfl, hb7⟩
    have S7 := Lib.hid (S6.then hb7)
    have X7 := Lib.hid (show zBox W.heap.size w7 from X6.out.past (hb7.mono (by omega)))
    have B7 := Lib.hid (B6.out.then hb7)
    have O7 := Own.below O6 hb7 (Nat.le_refl _)
    have z7 := hb7.size
    have d2 := S7.out.c2
    have d0 := S7.out.c0
    have d2f := S7.out.f2
    rw [e3] at d2
    clear hb7 S6 O6 O5 O4 S5 X5 BB5
    cases vs2 with
    | nil =>
      have hlen2 := drop_nil_iff HDR2.out
      obtain ⟨m, hm⟩ : ∃ m, m = ws.length := ⟨_, rfl⟩
      rw [← hm] at d0 hlen2
      have i2 : ¬ (q : Int) + 1 + 1 < (m : Int) := by omega
      have HDQ := Lib.hid (show ws.drop (q + 2) = [] from HDR2.out)
      clear hlen2 hm
      have HTX := Lib.hid (show txt ([x, y].take (plainN [x, y])) = [s, s2].map (·.toList) by rw [HPN0.out]; simp only [List.map_cons, List.map_nil, HSL.out, HSL2.out]; rfl)
      have HPN := Lib.hid (show dpOf (txt ([x, y].take (plainN [x, y]))) = dpOf ([s, s2].map (·.toList)) by rw [HTX.out])
      have HDD := Lib.hid (show [x, y].drop (plainN [x, y]) = ws.drop (q + 2) by rw [HPN0.out, HDQ.out]; rfl)
      clear HTX
      go_wp2_with fail
      go_quiet (fail)
      go_wp2_with fail
      have hbq := Go.below_drewN (Below.refl w7.heap.size w7) nq
      have S8 := Lib.hid (S7.out.then hbq)
      have X8 := Lib.hid (show zBox W.heap.size (w7.drewN nq) from X7.out.past (hbq.mono (by omega)))
      have B8 := Lib.hid (B7.out.then hbq)
      have O8 := Own.below O7 hbq (Nat.le_refl _)
      have z8 := hbq.size
      have OF := Lib.hid (rdof_any A5 c5 [s, s2] (w7.drewN nq) (by simp) (by intro t ht; simp at ht; rcases ht with rfl | rfl <;> first | exact HSZ.out | exact HSZ2.out) (by obtain ⟨A', c', e', ht⟩ := TR.of_own O8; cases e'; exact ht))
      generalize w7.drewN nq = w8 at *
      clear hbq O8 O7 S7 X7 B7 d0 d2 d2f
      refine (OF.out).mono ?_
      rintro en w9 ⟨rfl, hb9⟩
      have S9 := Lib.hid (S8.out.then hb9)
      have X9 := Lib.hid (show zBox W.heap.size w9 from X8.out.past (hb9.mono (by omega)))
      have B9 := Lib.hid (B8.out.then hb9)
      have z9 := hb9.size
      clear hb9
      obtain ⟨⟨h0, h1, h2, h3, h4, h5, h6⟩, ⟨k0, k1, k2, k3, k4, k5, k6⟩, hl⟩ := X9.out
      cases hdp : dpOf ([s, s2].map (·.toList)) with
      | none =>
        have HRR := Lib.hid (show partP e d [x, y] n = .stop pl 4 by rw [HPP.out]; unfold plainP; rw [HPN.out, hdp, HPL.out])
        rw [ofV_none]
        unfold ZV
        clear hdp
        go_wp2_with fail
        have XF := (X9.out.store (.int .u8 0) (.string ⟨#[]⟩) (.int .u8 0) (.int .i64 0) (.string ⟨#[]⟩) (.string ⟨#[]⟩) (.slice none 0 0)).past ((Below.refl _ _).alloc (by rw [store7_size]; exact hl) (.cells #[.string ⟨#[]⟩, .int .u8 0, .int .i64 0, .string ⟨#[]⟩, .string ⟨#[]⟩] 26))
        unfold store7 at XF
        obtain ⟨⟨j0, j1, j2, j3, j4, j5, j6⟩, _⟩ := XF
        refine bodyPost_ret (v := .tuple #[zR, .int .i64 (pl : Int), .int .i64 4]) (by simp [zR, results, Tryz.results51, go_sem, j0, j1, j2, j3, j4, j5, j6]; try rfl) rfl ?_
        exact RPost.stop HRR.out ((store7_but (Nat.le_refl _) B9.out _ _ _ _ _ _ _).alloc _)
      | some dd =>
        have hm := (words_dpOf hdp).1
        have HM := Lib.hid (dmay_wf hm)
        have HRR := Lib.hid (show partP e d [x, y] n = .ok (.mk 1 dd []) (ws.drop (q + 2)) (n + 1) by rw [HPP.out]; unfold plainP; rw [HPN.out, hdp]; simp only; rw [HDD.out])
        unfold ofV
        dsimp only
        unfold Dp.val
        clear hdp hm
        go_wp2_with fail
        have XF := (X9.out.store (.int .u8 1) (.string (bs dd.name)) (.int .u8 dd.op) (.int .i64 dd.evr.epoch) (.string (bs dd.evr.ver)) (.string (bs dd.evr.rel)) (.slice none 0 0)).past ((Below.refl _ _).alloc (by rw [store7_size]; exact hl) (.cells #[.string (bs dd.name), .int .u8 dd.op, .int .i64 dd.evr.epoch, .string (bs dd.evr.ver), .string (bs dd.evr.rel)] 26))
        unfold store7 at XF
        obtain ⟨⟨j0, j1, j2, j3, j4, j5, j6⟩, _⟩ := XF
        refine bodyPost_ret (v := .tuple #[(atomV dd).val, .int .i64 0, .int .i64 0]) (by simp [RV.val, atomV, RV.kind, RV.dep, RV.addr, RV.args, RV.cap, results, Tryz.results51, go_sem, j0, j1, j2, j3, j4, j5, j6]; try rfl) rfl ?_
        rw [HRR.out]
        exact ⟨(store7_but (Nat.le_refl _) B9.out _ _ _ _ _ _ _).alloc _, atomV dd, q + 2, rfl, rfl, rfl, atomV_tq HM.out, (S9.out.past (store7_below (by omega) (Below.refl _ _) _ _ _ _ _ _ _)).then ((Below.refl _ _).alloc (Nat.le_refl _) _)⟩
    | cons z vs3 =>
      obtain ⟨hq3, hz3, hdr3⟩ := drop_cons HDR2.out
      obtain ⟨m, hm⟩ : ∃ m, m = ws.length := ⟨_, rfl⟩
      rw [← hm] at d0
      have i2 : (q : Int) + 1 + 1 < (m : Int) := by omega
      have HQ3 := Lib.hid hq3
      have HDR3 := Lib.hid hdr3
      have HSL3 := Lib.hid (show s3.toList = z.2 by rw [HS3.out, bs_toList]; rfl)
      have HSZ3 := Lib.hid (show s3.size ≤ 4000000000 by rw [HS3.out, bs_size]; have := (HSM.out z (by rw [← hz3]; exact List.getElem_mem hq3)).1; show z.2.length ≤ _; omega)
      clear hq3 hz3 hdr3 hm
      have HTX := Lib.hid (show txt ((x :: y :: z :: vs3).take (plainN (x :: y :: z :: vs3))) = [s, s2, s3].map (·.toList) by rw [HPN0.out]; simp only [List.map_cons, List.map_nil, HSL.out, HSL2.out, HSL3.out]; rfl)
      have HPN := Lib.hid (show dpOf (txt ((x :: y :: z :: vs3).take (plainN (x :: y :: z :: vs3)))) = dpOf ([s, s2, s3].map (·.toList)) by rw [HTX.out])
      have HDD := Lib.hid (show (x :: y :: z :: vs3).drop (plainN (x :: y :: z :: vs3)) = ws.drop (q + 3) by rw [HPN0.out]; exact HDR3.out.symm)
      clear HTX
      go_wp2_with fail
      go_quiet (fail)
      have hbq := Go.below_drewN (Below.refl w7.heap.size w7) nq
      have S8 := Lib.hid (S7.out.then hbq)
      have X8 := Lib.hid (show zBox W.heap.size (w7.drewN nq) from X7.out.past (hbq.mono (by omega)))
      have B8 := Lib.hid (B7.out.then hbq)
      have O8 := Own.below O7 hbq (Nat.le_refl _)
      have z8 := hbq.size
      generalize w7.drewN nq = w8 at *
      clear hbq O7 S7 X7 B7 d0 d2 d2f
      go_wp2_with (at_builtin; refine wpList_append_tr (P := Tryz.prog) _ rfl _ _ 36 rfl w1.heap.size 9 _ (by rfl) (by rfl) (by rfl) (by rfl) (by rfl) _ _ _ rfl (World.ownsRow.alloc O8 _) (some ⟨w8.heap.size, 0, none⟩) 1 [s3] _ rfl rfl (TR.new w8 [s3] _) (by simp [maxLen]) (by simp) (by simp; omega) ?_; intro v10 w10 ho10 hg10 hv10; have B10 : Below (W.heap.size + 1) (w8.alloc (.cells #[.string s3] 9)) w10 := (Below.refl _ _).grown hg10 (by simp; omega) (fun k hk => Nat.le_trans g0 (World.ownsRow.lt O8 k hk).1); have S10 := Lib.hid ((S8.out.then ((Below.refl _ _).alloc (Nat.le_refl _) (.cells #[.string s3] 9))).past (B10.mono (by omega))); have X10 := Lib.hid (show zBox W.heap.size w10 from (X8.out.past ((Below.refl _ _).alloc (by omega) _)).past B10); have BB10 := Lib.hid ((B8.out.alloc (.cells #[.string s3] 9)).grown hg10 (fun k hk => by have := (World.ownsRow.lt O8 k hk).1; omega)); have O10 : Own encStr 1 w1.heap.size 9 v10 [s, s2, s3] w10 := own_app (X := [s, s2]) (Y := [s3]) ho10 rfl rfl; obtain ⟨A10, c10, rfl⟩ := own_shape ho10; have z10 := hg10.size; rw [World.size_alloc] at z10; have d2 := S10.out.c2; have d2f := S10.out.f2; rw [e3] at d2; clear ho10 hg10 hv10 B10)
      have e4 : (((q + 3 : Nat)) : Int) = (q : Int) + 1 + 1 + 1 := by omega
      have S11 := S10.out.setAt (q + 3) HQ3.out
      rw [e4] at S11
      have X11 := Lib.hid (show zBox W.heap.size (w10.setCell ⟨R, 2, none⟩ (.int .i64 ((q : Int) + 1 + 1 + 1))) from X10.out.butR ((ButR.refl R _).set 2 _) (by omega))
      have B11 := Lib.hid (BB10.out.set 2 (.int .i64 ((q : Int) + 1 + 1 + 1)))
      have O11 : Own encStr 1 w1.heap.size 9 (.slice A10 3 c10) [s, s2, s3] (w10.setCell ⟨R, 2, none⟩ (.int .i64 ((q : Int) + 1 + 1 + 1))) := O10.butR ((ButR.refl R _).set 2 _) (by omega)
      have z11 : w10.heap.size ≤ (w10.setCell ⟨R, 2, none⟩ (.int .i64 ((q : Int) + 1 + 1 + 1))).heap.size := by simp [World.setCell]
      have OF := Lib.hid (rdof_any A10 c10 [s, s2, s3] (w10.setCell ⟨R, 2, none⟩ (.int .i64 ((q : Int) + 1 + 1 + 1))) (by simp) (by intro t ht; simp at ht; rcases ht with rfl | rfl | rfl <;> first | exact HSZ.out | exact HSZ2.out | exact HSZ3.out) (by obtain ⟨A', c', e', ht⟩ := TR.of_own O11; cases e'; exact ht))
      have S11 := Lib.hid S11
      generalize w10.setCell ⟨R, 2, none⟩ (.int .i64 ((q : Int) + 1 + 1 + 1)) = w11 at *
      clear O11 O10 S10 X10 BB10 O8 S8 X8 B8 d2 d2f
      try go_at_call 92
      refine (OF.out).mono ?_
      rintro en w9 ⟨rfl, hb9⟩
      have S9 := Lib.hid (S11.out.then hb9)
      have X9 := Lib.hid (show zBox W.heap.size w9 from X11.out.past (hb9.mono (by omega)))
      have B9 := Lib.hid (B11.out.then hb9)
      have z9 := hb9.size
      clear hb9
      obtain ⟨⟨h0, h1, h2, h3, h4, h5, h6⟩, ⟨k0, k1, k2, k3, k4, k5, k6⟩, hl⟩ := X9.out
      cases hdp : dpOf ([s, s2, s3].map (·.toList)) with
      | none =>
        have HRR := Lib.hid (show partP e d (x :: y :: z :: vs3) n = .stop pl 4 by rw [HPP.out]; unfold plainP; rw [HPN.out, hdp, HPL.out])
        rw [ofV_none]
        unfold ZV
        clear hdp
        go_wp2_with fail
        have XF := (X9.out.store (.int .u8 0) (.string ⟨#[]⟩) (.int .u8 0) (.int .i64 0) (.string ⟨#[]⟩) (.string ⟨#[]⟩) (.slice none 0 0)).past ((Below.refl _ _).alloc (by rw [store7_size]; exact hl) (.cells #[.string ⟨#[]⟩, .int .u8 0, .int .i64 0, .string ⟨#[]⟩, .string ⟨#[]⟩] 26))
        unfold store7 at XF
        obtain ⟨⟨j0, j1, j2, j3, j4, j5, j6⟩, _⟩ := XF
        refine bodyPost_ret (v := .tuple #[zR, .int .i64 (pl : Int), .int .i64 4]) (by simp [zR, results, Tryz.results51, go_sem, j0, j1, j2, j3, j4, j5, j6]; try rfl) rfl ?_
        exact RPost.stop HRR.out ((store7_but (Nat.le_refl _) B9.out _ _ _ _ _ _ _).alloc _)
      | some dd =>
        have hm := (words_dpOf hdp).1
        have HM := Lib.hid (dmay_wf hm)
        have HRR := Lib.hid (show partP e d (x :: y :: z :: vs3) n = .ok (.mk 1 dd []) (ws.drop (q + 3)) (n + 1) by rw [HPP.out]; unfold plainP; rw [HPN.out, hdp]; simp only; rw [HDD.out])
        unfold ofV
        dsimp only
        unfold Dp.val
        clear hdp hm
        go_wp2_with fail
        have XF := (X9.out.store (.int .u8 1) (.string (bs dd.name)) (.int .u8 dd.op) (.int .i64 dd.evr.epoch) (.string (bs dd.evr.ver)) (.string (bs dd.evr.rel)) (.slice none 0 0)).past ((Below.refl _ _).alloc (by rw [store7_size]; exact hl) (.cells #[.string (bs dd.name), .int .u8 dd.op, .int .i64 dd.evr.epoch, .string (bs dd.evr.ver), .string (bs dd.evr.rel)] 26))
        unfold store7 at XF
        obtain ⟨⟨j0, j1, j2, j3, j4, j5, j6⟩, _⟩ := XF
        refine bodyPost_ret (v := .tuple #[(atomV dd).val, .int .i64 0, .int .i64 0]) (by simp [RV.val, atomV, RV.kind, RV.dep, RV.addr, RV.args, RV.cap, results, Tryz.results51, go_sem, j0, j1, j2, j3, j4, j5, j6]; try rfl) rfl ?_
        rw [HRR.out]
        exact ⟨(store7_but (Nat.le_refl _) B9.out _ _ _ _ _ _ _).alloc _, atomV dd, q + 3, rfl, rfl, rfl, atomV_tq HM.out, (S9.out.past (store7_below (by omega) (Below.refl _ _) _ _ _ _ _ _ _)).then ((Below.refl _ _).alloc (Nat.le_refl _) _)⟩
end Go.Proofs.YtnfagaccbkeikaaGreatDoor
