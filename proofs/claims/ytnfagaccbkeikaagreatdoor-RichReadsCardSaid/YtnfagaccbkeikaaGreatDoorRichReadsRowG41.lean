/- RichParse -/
import Derived.Test.YtnfagaccbkeikaaGreatDoorRichReadsRowG37
import Derived.Test.YtnfagaccbkeikaaGreatDoorRichReadsRowG40
import Derived.Test.YtnfagaccbkeikaaGreatDoorRichReadsRowG38
import Derived.Test.YtnfagaccbkeikaaGreatDoorRichReadsRowG30
/- Walks: the rich dependency of a text (rich.Parse). -/




namespace Go.Proofs.YtnfagaccbkeikaaGreatDoor
open Go.RowKit Go.Shelf
set_option linter.unusedVariables false

/-- the three results, which the closure may write -/
structure Res (m : Nat) (a0 a1 a2 a3 a4 a5 a6 v3 v4 : Value) (W : World) : Prop where
  box : Box7 m a0 a1 a2 a3 a4 a5 a6 W
  c3 : W.cell? ⟨m + 1, 0, none⟩ = some v3
  c4 : W.cell? ⟨m + 1 + 1, 0, none⟩ = some v4
  f3 : W.frozen? ⟨m + 1, 0, none⟩ = false
  f4 : W.frozen? ⟨m + 1 + 1, 0, none⟩ = false
  lt : m + 2 < W.heap.size
section
variable {m : Nat} {a0 a1 a2 a3 a4 a5 a6 v3 v4 : Value} {W W' : World}
theorem Res.past (h : Res m a0 a1 a2 a3 a4 a5 a6 v3 v4 W) (hb : Below (m + 3) W W') : Res m a0 a1 a2 a3 a4 a5 a6 v3 v4 W' where
  box := h.box.past (hb.mono (by omega))
  c3 := (hb.cell (p := ⟨m + 1, 0, none⟩) (by show m + 1 < m + 3; omega)).trans h.c3
  c4 := (hb.cell (p := ⟨m + 1 + 1, 0, none⟩) (by show m + 2 < m + 3; omega)).trans h.c4
  f3 := (hb.frozen (p := ⟨m + 1, 0, none⟩) (by show m + 1 < m + 3; omega)).trans h.f3
  f4 := (hb.frozen (p := ⟨m + 1 + 1, 0, none⟩) (by show m + 2 < m + 3; omega)).trans h.f4
  lt := Nat.lt_of_lt_of_le h.lt hb.size
theorem Res.then (h : Res m a0 a1 a2 a3 a4 a5 a6 v3 v4 W) (hb : Below W.heap.size W W') : Res m a0 a1 a2 a3 a4 a5 a6 v3 v4 W' := h.past (hb.mono h.lt)
theorem Res.butR {R : Nat} (h : Res m a0 a1 a2 a3 a4 a5 a6 v3 v4 W) (hb : ButR R W W') (hR : m + 3 ≤ R) (hl : R < W.heap.size) : Res m a0 a1 a2 a3 a4 a5 a6 v3 v4 W' := h.past (hb.below hR hl)
theorem Res.new (w : World) (e3 e4 : TypeId) (v3 v4 : Value) (e : TypeId) : Res w.heap.size a0 a1 a2 a3 a4 a5 a6 v3 v4 (((w.alloc (.cells #[a0, a1, a2, a3, a4, a5, a6] e)).alloc (.cells #[v3] e3)).alloc (.cells #[v4] e4)) := by
  have z1 : (w.alloc (.cells #[a0, a1, a2, a3, a4, a5, a6] e)).heap.size = w.heap.size + 1 := by simp
  have z2 : ((w.alloc (.cells #[a0, a1, a2, a3, a4, a5, a6] e)).alloc (.cells #[v3] e3)).heap.size = w.heap.size + 2 := by simp
  refine ⟨(((Box7.new w a0 a1 a2 a3 a4 a5 a6 e).past ((Below.refl _ _).alloc (by omega) _)).past ((Below.refl _ _).alloc (by omega) _)), ?_, ?_, ?_, ?_, by simp⟩
  · simp [go_sem]
  · simp [go_sem]
  · simp [go_sem]
  · simp [go_sem]
theorem Res.set3 (h : Res m a0 a1 a2 a3 a4 a5 a6 v3 v4 W) (u : Value) : Res m a0 a1 a2 a3 a4 a5 a6 u v4 (W.setCell ⟨m + 1, 0, none⟩ u) where
  box := h.box.past ((Below.refl _ _).setCell (p := ⟨m + 1, 0, none⟩) (Nat.le_refl _) u)
  c3 := sc_same h.c3
  c4 := (sc_other (by simp)).trans h.c4
  f3 := by rw [World.frozen?_setCell]; exact h.f3
  f4 := by rw [World.frozen?_setCell]; exact h.f4
  lt := by simpa [World.setCell] using h.lt
theorem Res.set4 (h : Res m a0 a1 a2 a3 a4 a5 a6 v3 v4 W) (u : Value) : Res m a0 a1 a2 a3 a4 a5 a6 v3 u (W.setCell ⟨m + 1 + 1, 0, none⟩ u) where
  box := h.box.past ((Below.refl _ _).setCell (p := ⟨m + 1 + 1, 0, none⟩) (by show m + 1 ≤ m + 2; omega) u)
  c3 := (sc_other (by simp)).trans h.c3
  c4 := sc_same h.c4
  f3 := by rw [World.frozen?_setCell]; exact h.f3
  f4 := by rw [World.frozen?_setCell]; exact h.f4
  lt := by simpa [World.setCell] using h.lt
theorem Res.store (h : Res m a0 a1 a2 a3 a4 a5 a6 v3 v4 W) (b0 b1 b2 b3 b4 b5 b6 : Value) : Res m b0 b1 b2 b3 b4 b5 b6 v3 v4 (store7 m b0 b1 b2 b3 b4 b5 b6 W) where
  box := h.box.store b0 b1 b2 b3 b4 b5 b6
  c3 := (World.cell?_of_block (w := W) (a := ⟨m + 1, 0, none⟩) (store7_block _ _ _ _ _ _ _ _ _ (by show m + 1 ≠ m; omega))).trans h.c3
  c4 := (World.cell?_of_block (w := W) (a := ⟨m + 1 + 1, 0, none⟩) (store7_block _ _ _ _ _ _ _ _ _ (by show m + 2 ≠ m; omega))).trans h.c4
  f3 := (World.frozen?_of_block (w := W) (a := ⟨m + 1, 0, none⟩) (store7_block _ _ _ _ _ _ _ _ _ (by show m + 1 ≠ m; omega))).trans h.f3
  f4 := (World.frozen?_of_block (w := W) (a := ⟨m + 1 + 1, 0, none⟩) (store7_block _ _ _ _ _ _ _ _ _ (by show m + 2 ≠ m; omega))).trans h.f4
  lt := by rw [store7_size]; exact h.lt
end
def zRV : RV := .node 0 zeroT none 0 []
theorem zRV_rtree (B : Nat) (W : World) : RTree B W zRV := .mk ⟨Nat.zero_le _, rfl, rfl, Nat.zero_le _, Nat.zero_le _⟩ (Rd.nil_ (Nat.zero_le _)) (fun a ha => by simp [zRV, RV.args] at ha)
/-- what Parse hands back -/
def ParsePost (s : ByteArray) (w : World) (e : Ending) (w' : World) : Prop :=
  ∃ rv : RV, rv.tree = (parseL s.toList).1.getD zeroRT ∧ e = .returned (.tuple #[rv.val, .int .i64 ((parseL s.toList).2.1 : Int), .int .i64 (parseL s.toList).2.2]) ∧ RTree w'.heap.size w' rv ∧ Below w.heap.size w w'
theorem ParsePost.no {s : ByteArray} {w w' : World} {p : Nat} {n : Int} (h : parseL s.toList = (none, p, n)) (hb : Below w.heap.size w w') : ParsePost s w (.returned (.tuple #[zRV.val, .int .i64 (p : Int), .int .i64 n])) w' :=
  ⟨zRV, by rw [h]; rfl, by rw [h], zRV_rtree _ _, hb⟩
theorem ParsePost.yes {s : ByteArray} {w w' : World} {t : RT} {rv : RV} (h : parseL s.toList = (some t, 0, 0)) (ht : rv.tree = t) (hr : RTree w'.heap.size w' rv) (hb : Below w.heap.size w w') : ParsePost s w (.returned (.tuple #[rv.val, .int .i64 0, .int .i64 0])) w' :=
  ⟨rv, by rw [h]; exact ht, by rw [h]; exact congrArg Ending.returned rfl, hr, hb⟩
def restP (t : RT) : List Tok → Option RT × Nat × Int | [] => (some t, 0, 0) | y :: _ => (none, y.1, 4)
theorem parseT_ok {e : Nat} {ws rs : List Tok} {t : RT} {n : Nat} (h : partP e 8 ws 0 = .ok t rs n) : parseT e ws = restP t rs := by
  unfold parseT
  rw [h]
  cases rs <;> rfl
theorem leave_res {m : Nat} {a0 a1 a2 a3 a4 a5 a6 v3 v4 : Value} {W : World} {R : Ending → World → Prop} {tmps : Array Value} (h : Res m a0 a1 a2 a3 a4 a5 a6 v3 v4 W) (ht : tmps[2]? = some (.pointer (some ⟨m, 0, none⟩)) ∧ tmps[3]? = some (.pointer (some ⟨m + 1, 0, none⟩)) ∧ tmps[4]? = some (.pointer (some ⟨m + 1 + 1, 0, none⟩))) (hR : R (.returned (.tuple #[.agg #[a0, a1, a2, a3, a4, a5, a6], v3, v4])) W) :
    Leaves Tryz.prog Tryz.f11 tmps R [] .returning W := by
  obtain ⟨⟨⟨h0, h1, h2, h3, h4, h5, h6⟩, _⟩, c3, c4, _⟩ := h
  obtain ⟨t2, t3, t4⟩ := ht
  refine ⟨_, ?_, hR⟩
  simp [results, Tryz.results11, go_sem, t2, t3, t4, h0, h1, h2, h3, h4, h5, h6, c3, c4]
set_option maxRecDepth 100000 in
set_option maxHeartbeats 16000000 in
theorem rparse_any (s : ByteArray) (w : World) (hs : s.size ≤ maxLen) (hI : RichIn w) : Calls Tryz.prog 11 #[.string s] w (ParsePost s w) := by
  have hmf : ∀ (fn : Fn) (first cap : Array Value) (w : World), (Instr.makeFunc fn first cap).run Tryz.prog w = .ok (.func fn first cap) w := fun _ _ _ _ => rfl
  have HS := Lib.hid hs
  have HI := Lib.hid hI
  obtain ⟨ws, p, n, hws⟩ : ∃ ws p n, wordsS s.toList = (ws, p, n) := ⟨_, _, _, rfl⟩
  have HW := Lib.hid hws
  have hq := Lib.hid (fun W => words_any s W hs)
  unfold WordsPostX at hq
  rw [hws] at hq
  dsimp only at hq
  clear hI hs hws
  go_enter_defers Tryz.func11, Tryz.ntmps11
  go_wp2_with fail
  go_at_call 45
  refine (hq.out _).mono ?_
  rintro en w1 ⟨v, rfl, hO, hB⟩
  have R1 := (Res.new (a0 := .int .u8 0) (a1 := .string ⟨#[]⟩) (a2 := .int .u8 0) (a3 := .int .i64 0) (a4 := .string ⟨#[]⟩) (a5 := .string ⟨#[]⟩) (a6 := .slice none 0 0) w 3 30 (.int .i64 0) (.int .i64 0) 29).then hB
  obtain ⟨A, c, rfl, hRd⟩ := hO.rd encTok_len
  have HO := Lib.hid hO
  have h3 := R1.c3
  have h4 := R1.c4
  have f3 := R1.f3
  have f4 := R1.f4
  obtain ⟨⟨b0, b1, b2, b3, b4, b5, b6⟩, ⟨g0, g1, g2, g3, g4, g5, g6⟩, bl⟩ := R1.box
  have HR1 := Lib.hid R1
  have HB := Lib.hid (show Below w.heap.size w w1 from (((Below.refl _ _).alloc (Nat.le_refl _) _).alloc (by simp) _).alloc (by simp; omega) _ |>.trans (hB.mono (by simp; omega)))
  clear R1 hO hB hRd hq
  by_cases hn : n = 0
  · subst hn
    have hm : ∀ i : Nat, i ≤ 2 → w.heap.size + i < (((w.alloc (.cells #[.int .u8 0, .string ⟨#[]⟩, .int .u8 0, .int .i64 0, .string ⟨#[]⟩, .string ⟨#[]⟩, .slice none 0 0] 29)).alloc (.cells #[.int .i64 0] 3)).alloc (.cells #[.int .i64 0] 30)).heap.size := fun i hi => by simp; omega
    have O2 := ownsRow_setCell_below (ownsRow_setCell_below HO.out (a := ⟨w.heap.size + 1, 0, none⟩) (hm 1 (by omega)) (.int .i64 (p : Int))) (a := ⟨w.heap.size + 1 + 1, 0, none⟩) (hm 2 (by omega)) (.int .i64 0)
    obtain ⟨A2, c2, hv2, hR2⟩ := Own.rd (l := ws) (enc := encTok) O2 encTok_len
    have hA2 : ∀ b off, A = some ⟨b, off, none⟩ → w.heap.size + 3 ≤ b := fun b off e => by
      have := (World.ownsRow.lt O2 b (by rw [e]; rfl)).1
      simpa using this
    cases hv2
    have R2 := (HR1.out.set3 (.int .i64 (p : Int))).set4 (.int .i64 0)
    have B2 := (HB.out.setCell (p := ⟨w.heap.size + 1, 0, none⟩) (by show w.heap.size ≤ w.heap.size + 1; omega) (.int .i64 (p : Int))).setCell (p := ⟨w.heap.size + 1 + 1, 0, none⟩) (by show w.heap.size ≤ w.heap.size + 1 + 1; omega) (.int .i64 0)
    have hsm : ∀ x ∈ ws, x.2.length ≤ 10000 ∧ x.1 ≤ 10000 := fun x hx => by
      have := words_small s.toList x (by rw [HW.out]; exact hx)
      omega
    have hln : ws.length ≤ 5000 := by have := words_len s.toList; rw [HW.out] at this; dsimp only at this; omega
    have CL := Lib.hid (rclone_any A c ws _ hR2 hln)
    have R2H := Lib.hid R2
    have B2H := Lib.hid B2
    have HSM := Lib.hid hsm
    have HPP := Lib.hid (show parseL s.toList = parseT s.size ws by unfold parseL; rw [HW.out]; rw [if_neg (by simp), ← size_toList])
    clear hm O2 hR2 R2 B2 hsm hln hA2
    go_wp2_with fail
    go_at_call 47
    refine CL.out.mono ?_
    rintro en w3 ⟨A3, c3, rfl, hR3, hA3, hB3⟩
    have R3 := R2H.out.then hB3
    have B3 := B2H.out.trans (hB3.mono B2H.out.size)
    have hA : ∀ b off, A3 = some ⟨b, off, none⟩ → w.heap.size + 3 ≤ b := fun b off e => by have := hA3 b off e; have := R2H.out.lt; omega
    have S4 := St.start (e := s.size) B3 hR3 hA HSM.out
    have R4 := R3.then ((Below.refl _ _).alloc (Nat.le_refl _) (.cells #[.slice A3 ws.length c3, .int .i64 (s.size : Int), .int .i64 0, .int .i64 0] 97))
    have hlt3 := R3.lt
    have B4 := B3.alloc B3.size (.cells #[.slice A3 ws.length c3, .int .i64 (s.size : Int), .int .i64 0, .int .i64 0] 97)
    have hz4 : (w3.alloc (.cells #[.slice A3 ws.length c3, .int .i64 (s.size : Int), .int .i64 0, .int .i64 0] 97)).heap.size = w3.heap.size + 1 := by simp
    clear CL R2H B2H hR3 hA3 hB3 R3 hA
    go_wp2_with fail
    go_at_call 48
    refine (rpart_says HI.out 8 0 rfl ws 0 _ _ _ (by omega) S4).mono ?_
    rintro en w5 ⟨hB5, hPP⟩
    have R5 := R4.butR hB5 (by omega) (by omega)
    have B5 := B4.trans (hB5.below B3.size (by omega))
    clear S4 R4 B4 B3
    cases hpp : partP s.size 8 ws 0 with
    | stop q y =>
      have HP := Lib.hid (show parseL s.toList = (none, q, y) by rw [HPP.out]; unfold parseT; rw [hpp])
      rw [hpp] at hPP
      simp only at hPP
      subst hPP
      clear hpp
      unfold stopV
      go_wp2_with fail
      refine leaves_cons (f := 46) (args := #[.pointer (some ⟨w.heap.size, 0, none⟩), .pointer (some ⟨w.heap.size + 1, 0, none⟩), .pointer (some ⟨w.heap.size + 1 + 1, 0, none⟩)]) (by simp) (by simp [go_sem]) ?_
      refine (rcatch_panicking w.heap.size (w.heap.size + 1) (w.heap.size + 1 + 1) q y [] w5 R5.box R5.c3 R5.c4 R5.f3 R5.f4 (by omega) (by omega) (by omega)).mono ?_
      rintro e u' w6 ⟨rfl, rfl, rfl⟩
      have RF := (((R5.store (.int .u8 0) (.string ⟨#[]⟩) (.int .u8 0) (.int .i64 0) (.string ⟨#[]⟩) (.string ⟨#[]⟩) (.slice none 0 0)).set3 (.int .i64 (q : Int))).set4 (.int .i64 y)).then ((Below.refl _ _).alloc (Nat.le_refl _) (.cells #[.int .i64 (q : Int), .int .i64 y] 90)).drew
      have BF := (((store7_below (m := w.heap.size) (Nat.le_refl _) B5 (.int .u8 0) (.string ⟨#[]⟩) (.int .u8 0) (.int .i64 0) (.string ⟨#[]⟩) (.string ⟨#[]⟩) (.slice none 0 0)).setCell (p := ⟨w.heap.size + 1, 0, none⟩) (by show w.heap.size ≤ w.heap.size + 1; omega) (.int .i64 (q : Int))).setCell (p := ⟨w.heap.size + 1 + 1, 0, none⟩) (by show w.heap.size ≤ w.heap.size + 1 + 1; omega) (.int .i64 y)).alloc (by simp [store7_size, World.setCell]; have := B5.size; simpa using this) (.cells #[.int .i64 (q : Int), .int .i64 y] 90) |>.drew
      exact leave_res RF ⟨rfl, rfl, rfl⟩ (ParsePost.no HP.out BF)
    | ok t rs n' =>
      rw [hpp] at hPP
      obtain ⟨rv, hrt, rfl, hT, A5, c5, S5⟩ := hPP
      obtain ⟨⟨⟨h0, h1, h2, h3, h4, h5, h6⟩, ⟨k0, k1, k2, k3, k4, k5, k6⟩, hl⟩, x3, x4, y3, y4, xl⟩ := id R5
      have R6 := R5.store (.int .u8 rv.kind) (.string (bs rv.dep.name)) (.int .u8 rv.dep.op) (.int .i64 rv.dep.evr.epoch) (.string (bs rv.dep.evr.ver)) (.string (bs rv.dep.evr.rel)) (.slice rv.addr rv.args.length rv.cap)
      have B6 := store7_below (m := w.heap.size) (Nat.le_refl _) B5 (.int .u8 rv.kind) (.string (bs rv.dep.name)) (.int .u8 rv.dep.op) (.int .i64 rv.dep.evr.epoch) (.string (bs rv.dep.evr.ver)) (.string (bs rv.dep.evr.rel)) (.slice rv.addr rv.args.length rv.cap)
      have S6 := S5.storeM (m := w.heap.size) (Nat.le_refl _) (by omega) (by omega) (.int .u8 rv.kind) (.string (bs rv.dep.name)) (.int .u8 rv.dep.op) (.int .i64 rv.dep.evr.epoch) (.string (bs rv.dep.evr.ver)) (.string (bs rv.dep.evr.rel)) (.slice rv.addr rv.args.length rv.cap)
      have T6 := hT.store (m := w.heap.size) (hi := w3.heap.size + 1) (by omega) (by omega) (.int .u8 rv.kind) (.string (bs rv.dep.name)) (.int .u8 rv.dep.op) (.int .i64 rv.dep.evr.epoch) (.string (bs rv.dep.evr.ver)) (.string (bs rv.dep.evr.rel)) (.slice rv.addr rv.args.length rv.cap)
      have HPK := Lib.hid (HPP.out.trans (parseT_ok hpp))
      have hz6 := R6.lt
      clear R5 B5 S5 hT hpp HPP HW
      unfold RV.val
      go_wp2_with fail
      go_at_call 49
      refine (rat_any _ S6).mono ?_
      rintro en w7 ⟨rfl, hB7, S7⟩
      have R7 := R6.butR hB7 (by omega) (by rw [store7_size]; have := hB5.size; omega)
      have B7 := B6.trans (hB7.below (by omega) (by rw [store7_size]; have := hB5.size; omega))
      have T7 := T6.butR hB7 (by omega)
      have c0 := S7.c0
      have HRT := Lib.hid hrt
      have hlt7 := R7.lt
      clear R6 B6 S6 T6 hB7 S7 hrt h0 h1 h2 h3 h4 h5 h6 k0 k1 k2 k3 k4 k5 k6 hl x3 x4 y3 y4 xl
      obtain ⟨⟨⟨h0, h1, h2, h3, h4, h5, h6⟩, ⟨k0, k1, k2, k3, k4, k5, k6⟩, hl⟩, x3, x4, y3, y4, xl⟩ := id R7
      cases rs with
      | nil =>
        simp only [List.length_nil] at c0
        have RF := ((R7.store (.int .u8 rv.kind) (.string (bs rv.dep.name)) (.int .u8 rv.dep.op) (.int .i64 rv.dep.evr.epoch) (.string (bs rv.dep.evr.ver)) (.string (bs rv.dep.evr.rel)) (.slice rv.addr rv.args.length rv.cap)).set3 (.int .i64 0)).set4 (.int .i64 0)
        have BF := (((store7_below (m := w.heap.size) (Nat.le_refl _) B7 (.int .u8 rv.kind) (.string (bs rv.dep.name)) (.int .u8 rv.dep.op) (.int .i64 rv.dep.evr.epoch) (.string (bs rv.dep.evr.ver)) (.string (bs rv.dep.evr.rel)) (.slice rv.addr rv.args.length rv.cap)).setCell (p := ⟨w.heap.size + 1, 0, none⟩) (by show w.heap.size ≤ w.heap.size + 1; omega) (.int .i64 0)).setCell (p := ⟨w.heap.size + 1 + 1, 0, none⟩) (by show w.heap.size ≤ w.heap.size + 1 + 1; omega) (.int .i64 0))
        have TF := (T7.store (m := w.heap.size) (hi := w3.heap.size + 1) (by omega) (Nat.le_refl _) (.int .u8 rv.kind) (.string (bs rv.dep.name)) (.int .u8 rv.dep.op) (.int .i64 rv.dep.evr.epoch) (.string (bs rv.dep.evr.ver)) (.string (bs rv.dep.evr.rel)) (.slice rv.addr rv.args.length rv.cap)).keep (W' := ((store7 w.heap.size (.int .u8 rv.kind) (.string (bs rv.dep.name)) (.int .u8 rv.dep.op) (.int .i64 rv.dep.evr.epoch) (.string (bs rv.dep.evr.ver)) (.string (bs rv.dep.evr.rel)) (.slice rv.addr rv.args.length rv.cap) w7).setCell ⟨w.heap.size + 1, 0, none⟩ (.int .i64 0)).setCell ⟨w.heap.size + 1 + 1, 0, none⟩ (.int .i64 0)) (fun b hb => hb) (fun b hb => by
          rw [Below.heap_setCell _ _ _ _ (by show b ≠ w.heap.size + 1 + 1; omega), Below.heap_setCell _ _ _ _ (by show b ≠ w.heap.size + 1; omega)])
        have TR := TF.rtree (B := (((store7 w.heap.size (.int .u8 rv.kind) (.string (bs rv.dep.name)) (.int .u8 rv.dep.op) (.int .i64 rv.dep.evr.epoch) (.string (bs rv.dep.evr.ver)) (.string (bs rv.dep.evr.rel)) (.slice rv.addr rv.args.length rv.cap) w7).setCell ⟨w.heap.size + 1, 0, none⟩ (.int .i64 0)).setCell ⟨w.heap.size + 1 + 1, 0, none⟩ (.int .i64 0)).heap.size) (fun b hb => by simpa [World.setCell] using hb.2)
        have HRF := Lib.hid RF
        have HBF := Lib.hid BF
        have HTR := Lib.hid TR
        clear R7 B7 T7 TF RF BF TR
        go_wp2_with fail
        refine leaves_cons (f := 46) (args := #[.pointer (some ⟨w.heap.size, 0, none⟩), .pointer (some ⟨w.heap.size + 1, 0, none⟩), .pointer (some ⟨w.heap.size + 1 + 1, 0, none⟩)]) (by simp) (by simp [go_sem]) ?_
        refine (rcatch_idle _ _ _ _).mono ?_
        rintro e u' w8 ⟨rfl, rfl, rfl⟩
        have RF := HRF.out
        have BF := HBF.out
        have TR := HTR.out
        unfold store7 at RF BF TR
        show Leaves Tryz.prog Tryz.f11 _ _ [] .returning _
        exact leave_res RF ⟨rfl, rfl, rfl⟩ (ParsePost.yes HPK.out HRT.out TR BF)
      | cons y r =>
        obtain ⟨m, hm⟩ : ∃ m, m = (y :: r).length := ⟨_, rfl⟩
        have m0 : (0 : Int) < (m : Int) := by rw [hm]; simp only [List.length_cons]; omega
        rw [← hm] at c0
        have RF := ((R7.store (.int .u8 0) (.string ⟨#[]⟩) (.int .u8 0) (.int .i64 0) (.string ⟨#[]⟩) (.string ⟨#[]⟩) (.slice none 0 0)).set3 (.int .i64 (atPl s.size (y :: r) : Int))).set4 (.int .i64 4)
        have BF := (((store7_below (m := w.heap.size) (Nat.le_refl _) B7 (.int .u8 0) (.string ⟨#[]⟩) (.int .u8 0) (.int .i64 0) (.string ⟨#[]⟩) (.string ⟨#[]⟩) (.slice none 0 0)).setCell (p := ⟨w.heap.size + 1, 0, none⟩) (by show w.heap.size ≤ w.heap.size + 1; omega) (.int .i64 (atPl s.size (y :: r) : Int))).setCell (p := ⟨w.heap.size + 1 + 1, 0, none⟩) (by show w.heap.size ≤ w.heap.size + 1 + 1; omega) (.int .i64 4))
        have HRF := Lib.hid RF
        have HBF := Lib.hid BF
        clear R7 B7 T7 hm RF BF hz6 hB5 hz4 hlt3 hlt7
        go_wp2_with fail
        refine leaves_cons (f := 46) (args := #[.pointer (some ⟨w.heap.size, 0, none⟩), .pointer (some ⟨w.heap.size + 1, 0, none⟩), .pointer (some ⟨w.heap.size + 1 + 1, 0, none⟩)]) (by simp) (by simp [go_sem]) ?_
        refine (rcatch_idle _ _ _ _).mono ?_
        rintro e u' w8 ⟨rfl, rfl, rfl⟩
        have RF := HRF.out
        have BF := HBF.out
        unfold store7 at RF BF
        show Leaves Tryz.prog Tryz.f11 _ _ [] .returning _
        exact leave_res RF ⟨rfl, rfl, rfl⟩ (ParsePost.no (p := atPl s.size (y :: r)) HPK.out BF)
  · have hn0 : (n == 0) = false := by simp only [beq_eq_false_iff_ne]; exact hn
    have HP := Lib.hid (show parseL s.toList = (none, p, n) by unfold parseL; rw [HW.out]; exact if_pos hn)
    clear hn
    go_wp2_with fail
    go_region
    go_wp2_with fail
    have RF := ((((((HR1.out.set3 (.int .i64 (p : Int))).set4 (.int .i64 n)).store (.int .u8 0) (.string ⟨#[]⟩) (.int .u8 0) (.int .i64 0) (.string ⟨#[]⟩) (.string ⟨#[]⟩) (.slice none 0 0)).set3 (.int .i64 (p : Int))).set4 (.int .i64 n)).past (Below.refl _ _).drew)
    have BF : Below w.heap.size w _ := ((store7_below (m := w.heap.size) (Nat.le_refl _) ((HB.out.setCell (p := ⟨w.heap.size + 1, 0, none⟩) (by show w.heap.size ≤ w.heap.size + 1; omega) (.int .i64 (p : Int))).setCell (p := ⟨w.heap.size + 1 + 1, 0, none⟩) (by show w.heap.size ≤ w.heap.size + 1 + 1; omega) (.int .i64 n)) (.int .u8 0) (.string ⟨#[]⟩) (.int .u8 0) (.int .i64 0) (.string ⟨#[]⟩) (.string ⟨#[]⟩) (.slice none 0 0)).setCell (p := ⟨w.heap.size + 1, 0, none⟩) (by show w.heap.size ≤ w.heap.size + 1; omega) (.int .i64 (p : Int))).setCell (p := ⟨w.heap.size + 1 + 1, 0, none⟩) (by show w.heap.size ≤ w.heap.size + 1 + 1; omega) (.int .i64 n) |>.drew
    unfold store7 at RF BF
    exact leave_res RF ⟨rfl, rfl, rfl⟩ (ParsePost.no HP.out BF)
end Go.Proofs.YtnfagaccbkeikaaGreatDoor
