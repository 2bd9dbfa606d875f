/- RtParse -/
import Derived.Test.YtnfagaccbkeikaaGreatDoorRichReadsRowG40
import Derived.Test.YtnfagaccbkeikaaGreatDoorRichReadsRowG41
import Derived.Test.YtnfagaccbkeikaaGreatDoorRichReadsRowG32
import Derived.StillTailTactics
/- Walks: the rich dependency of a text, as the reference reads it (chandleryref08.Parse). -/




namespace Go.Proofs.YtnfagaccbkeikaaGreatDoor
open Go.RowKit Go.Shelf
set_option linter.unusedVariables false

theorem RS.start {w1 : World} {A : Option Addr} {c e : Nat} {ws : List Tok} (hR : Rd encTok 2 w1.heap.size A c ws w1) (hs : ∀ x ∈ ws, x.2.length ≤ 10000 ∧ x.1 ≤ 10000) (hl : ws.length ≤ 10000) :
    RS w1 w1.heap.size e ws A c 0 0 (w1.alloc (.cells #[.slice A ws.length c, .int .i64 (e : Int), .int .i64 0, .int .i64 0] 106)) := by
  refine ⟨Nat.le_refl _, by simp, ?_, ?_, ?_, ?_, ?_, ?_, hR.alloc (Nat.le_refl _) _, (Below.refl _ _).alloc (Nat.le_refl _) _, hs, hl, Nat.zero_le _⟩
  all_goals first | (exact (World.cell?_alloc_at _ _ _ _ rfl).trans rfl) | simp [go_sem]
set_option maxRecDepth 100000 in
set_option maxHeartbeats 16000000 in
theorem rtparse_any (s : ByteArray) (w : World) (hs : s.size ≤ maxLen) : Calls Tryz.prog 12 #[.string s] w (ParsePost s w) := by
  have HS := Lib.hid hs
  obtain ⟨ws, p, n, hws⟩ : ∃ ws p n, wordsS s.toList = (ws, p, n) := ⟨_, _, _, rfl⟩
  have HW := Lib.hid hws
  have hq := Lib.hid (fun W => refWords_any s W hs)
  unfold WordsPostR at hq
  rw [hws] at hq
  dsimp only at hq
  have X0 := Lib.hid (show zBox w.heap.size (w.alloc (.cells #[.int .u8 0, .string ⟨#[]⟩, .int .u8 0, .int .i64 0, .string ⟨#[]⟩, .string ⟨#[]⟩, .slice none 0 0] 29)) from Box7.new w _ _ _ _ _ _ _ _)
  clear hs hws
  go_enter Tryz.func12, Tryz.ntmps12
  go_wp2_with fail
  go_at_call 50
  refine (hq.out _).mono ?_
  rintro en w1 ⟨v, rfl, hO, hB⟩
  obtain ⟨A, c, rfl, hRd⟩ := hO.rd encTok_len
  have X1 := Lib.hid (show zBox w.heap.size w1 from X0.out.past (hB.mono (by simp)))
  have HB := Lib.hid (show Below w.heap.size w w1 from ((Below.refl _ _).alloc (Nat.le_refl _) (.cells #[.int .u8 0, .string ⟨#[]⟩, .int .u8 0, .int .i64 0, .string ⟨#[]⟩, .string ⟨#[]⟩, .slice none 0 0] 29)).trans (hB.mono (by simp)))
  have z1 := hB.size
  rw [World.size_alloc] at z1
  have HRd := Lib.hid hRd
  have HLO := Lib.hid (show ∀ b off, A = some ⟨b, off, none⟩ → w.heap.size + 1 ≤ b from fun b off e => by
    have := (World.ownsRow.lt hO b (by rw [e]; rfl)).1
    simpa using this)
  clear hB hO hRd hq X0
  obtain ⟨⟨h0, h1, h2, h3, h4, h5, h6⟩, ⟨k0, k1, k2, k3, k4, k5, k6⟩, hl⟩ := X1.out
  by_cases hn : n = 0
  · subst hn
    have hsm : ∀ x ∈ ws, x.2.length ≤ 10000 ∧ x.1 ≤ 10000 := fun x hx => by
      have := words_small s.toList x (by rw [HW.out]; exact hx)
      omega
    have hln : ws.length ≤ 10000 := by have := words_len s.toList; rw [HW.out] at this; dsimp only at this; omega
    have HSM := Lib.hid hsm
    have HLN := Lib.hid hln
    have HPP := Lib.hid (show parseL s.toList = parseT s.size ws by unfold parseL; rw [HW.out]; rw [if_neg (by simp), ← size_toList])
    clear hsm hln
    go_wp2_with fail
    go_at_call 51
    have S4 := RS.start (e := s.size) HRd.out HSM.out HLN.out
    have X4 := Lib.hid (show zBox w.heap.size (w1.alloc (.cells #[.slice A ws.length c, .int .i64 (s.size : Int), .int .i64 0, .int .i64 0] 106)) from X1.out.past ((Below.refl _ _).alloc (by omega) _))
    have B4 := Lib.hid (HB.out.alloc HB.out.size (.cells #[.slice A ws.length c, .int .i64 (s.size : Int), .int .i64 0, .int .i64 0] 106))
    have hz4 : (w1.alloc (.cells #[.slice A ws.length c, .int .i64 (s.size : Int), .int .i64 0, .int .i64 0] 106)).heap.size = w1.heap.size + 1 := by simp
    refine (rtread_any 8 0 rfl 0 0 _ (by omega) S4).mono ?_
    rintro en w5 ⟨hB5, hPP⟩
    rw [List.drop_zero] at hPP
    have X5 := Lib.hid (show zBox w.heap.size w5 from X4.out.butR hB5 (by omega))
    have B5 := Lib.hid (B4.out.trans (hB5.below HB.out.size (by omega)))
    have z5 := hB5.size
    rw [hz4] at z5
    clear S4 X4 B4 hB5 h0 h1 h2 h3 h4 h5 h6 k0 k1 k2 k3 k4 k5 k6 hl X1 hz4
    obtain ⟨⟨h0, h1, h2, h3, h4, h5, h6⟩, ⟨k0, k1, k2, k3, k4, k5, k6⟩, hl⟩ := X5.out
    cases hpp : partP s.size 8 ws 0 with
    | stop q y =>
      have HP := Lib.hid (show parseL s.toList = (none, q, y) by rw [HPP.out]; unfold parseT; rw [hpp])
      have hy := (part_stop s.size 8 ws 0 q y (by omega) hpp).2
      have y0 : (y == 0) = false := by simp only [beq_eq_false_iff_ne]; omega
      have y1 : (y != 0) = true := by simp only [bne, y0, Bool.not_false]
      rw [hpp] at hPP
      simp only at hPP
      subst hPP
      clear hpp hy
      unfold zR
      go_wp2_with fail
      have XF := (X5.out.store (.int .u8 0) (.string ⟨#[]⟩) (.int .u8 0) (.int .i64 0) (.string ⟨#[]⟩) (.string ⟨#[]⟩) (.slice none 0 0)).past ((Below.refl _ _).alloc (by rw [store7_size]; exact hl) (.cells #[.int .u8 0, .string ⟨#[]⟩, .int .u8 0, .int .i64 0, .string ⟨#[]⟩, .string ⟨#[]⟩, .slice none 0 0] 29))
      unfold store7 at XF
      obtain ⟨⟨j0, j1, j2, j3, j4, j5, j6⟩, _⟩ := XF
      refine bodyPost_ret (v := .tuple #[zRV.val, .int .i64 (q : Int), .int .i64 y]) (by simp [zRV, RV.val, RV.kind, RV.dep, RV.addr, RV.args, RV.cap, zeroT, zeroE, results, Tryz.results12, go_sem, j0, j1, j2, j3, j4, j5, j6]; try rfl) rfl ?_
      exact ParsePost.no HP.out ((store7_below (Nat.le_refl _) B5.out _ _ _ _ _ _ _).alloc (by rw [store7_size]; omega) _)
    | ok t rs n' =>
      rw [hpp] at hPP
      obtain ⟨rv, q, hrt, hdr, rfl, hT, S5⟩ := hPP
      have HPK := Lib.hid (HPP.out.trans (parseT_ok hpp))
      have S6 := S5.then ((Below.refl _ _).alloc (Nat.le_refl _) (.cells #[.int .u8 rv.kind, .string (bs rv.dep.name), .int .u8 rv.dep.op, .int .i64 rv.dep.evr.epoch, .string (bs rv.dep.evr.ver), .string (bs rv.dep.evr.rel), .slice rv.addr rv.args.length rv.cap] 29))
      have X9 := Lib.hid (Box7.new w5 (.int .u8 rv.kind) (.string (bs rv.dep.name)) (.int .u8 rv.dep.op) (.int .i64 rv.dep.evr.epoch) (.string (bs rv.dep.evr.ver)) (.string (bs rv.dep.evr.rel)) (.slice rv.addr rv.args.length rv.cap) 29)
      have c0 := S6.c0
      have c2 := S6.c2
      have hle := S6.le
      have HT := Lib.hid hT
      have HRT := Lib.hid hrt
      have q0 : (0 : Int) ≤ (q : Int) := by omega
      have q1 : (q : Int) ≤ 10000 := by have := HLN.out; omega
      obtain ⟨m, hm⟩ : ∃ m, m = ws.length := ⟨_, rfl⟩
      rw [← hm] at c0
      unfold RV.val
      cases rs with
      | nil =>
        have hqq := drop_nil_iff hdr
        have i2 : ¬ (q : Int) < (m : Int) := by omega
        clear hpp S5 S6 hT hrt hdr hle hqq
        go_wp2_with fail
        go_quiet (fail)
        go_wp2_with fail
        have X6 := X5.out.past (Go.below_drewN ((Below.refl (w.heap.size + 1) w5).alloc (by omega) (.cells #[.int .u8 rv.kind, .string (bs rv.dep.name), .int .u8 rv.dep.op, .int .i64 rv.dep.evr.epoch, .string (bs rv.dep.evr.ver), .string (bs rv.dep.evr.rel), .slice rv.addr rv.args.length rv.cap] 29)) nq)
        have T6 := HT.out.keep (Q' := fun b => w1.heap.size + 1 ≤ b ∧ b < ((w5.alloc (.cells #[.int .u8 rv.kind, .string (bs rv.dep.name), .int .u8 rv.dep.op, .int .i64 rv.dep.evr.epoch, .string (bs rv.dep.evr.ver), .string (bs rv.dep.evr.rel), .slice rv.addr rv.args.length rv.cap] 29)).drewN nq).heap.size) (W' := (w5.alloc (.cells #[.int .u8 rv.kind, .string (bs rv.dep.name), .int .u8 rv.dep.op, .int .i64 rv.dep.evr.epoch, .string (bs rv.dep.evr.ver), .string (bs rv.dep.evr.rel), .slice rv.addr rv.args.length rv.cap] 29)).drewN nq) (fun b hb => ⟨by have := hb.1; rw [World.size_alloc] at this; exact this, by show b < (w5.alloc (.cells #[.int .u8 rv.kind, .string (bs rv.dep.name), .int .u8 rv.dep.op, .int .i64 rv.dep.evr.epoch, .string (bs rv.dep.evr.ver), .string (bs rv.dep.evr.rel), .slice rv.addr rv.args.length rv.cap] 29)).heap.size; rw [World.size_alloc]; exact Nat.lt_succ_of_lt hb.2⟩) (fun b hb => Below.heap_alloc _ _ _ hb.2)
        have XF := X6.store (.int .u8 rv.kind) (.string (bs rv.dep.name)) (.int .u8 rv.dep.op) (.int .i64 rv.dep.evr.epoch) (.string (bs rv.dep.evr.ver)) (.string (bs rv.dep.evr.rel)) (.slice rv.addr rv.args.length rv.cap)
        unfold store7 at XF
        obtain ⟨⟨j0, j1, j2, j3, j4, j5, j6⟩, _⟩ := XF
        refine bodyPost_ret (v := .tuple #[rv.val, .int .i64 0, .int .i64 0]) (by simp [RV.val, results, Tryz.results12, go_sem, j0, j1, j2, j3, j4, j5, j6]; try rfl) rfl ?_
        exact ParsePost.yes HPK.out HRT.out ((T6.store (m := w.heap.size) (hi := w1.heap.size + 1) (by omega) (Nat.le_refl _) (.int .u8 rv.kind) (.string (bs rv.dep.name)) (.int .u8 rv.dep.op) (.int .i64 rv.dep.evr.epoch) (.string (bs rv.dep.evr.ver)) (.string (bs rv.dep.evr.rel)) (.slice rv.addr rv.args.length rv.cap)).rtree (fun b hb => hb.2)) (store7_below (Nat.le_refl _) (Go.below_drewN (B5.out.alloc B5.out.size _) nq) (.int .u8 rv.kind) (.string (bs rv.dep.name)) (.int .u8 rv.dep.op) (.int .i64 rv.dep.evr.epoch) (.string (bs rv.dep.evr.ver)) (.string (bs rv.dep.evr.rel)) (.slice rv.addr rv.args.length rv.cap))
      | cons x r =>
        obtain ⟨hqq, hx, _⟩ := drop_cons hdr
        obtain ⟨b, off, hA, hb, g0, g1⟩ := S6.row.at2 (f := fun x : Tok => .string (bs x.2)) (g := fun x : Tok => .int .i64 (x.1 : Int)) (fun _ => rfl) hqq
        rw [hx] at g0 g1
        have i1 : (q : Int) < (m : Int) := by omega
        have i2 : ¬ (m : Int) ≤ (q : Int) := by omega
        rw [hA] at c0
        have hbm := HLO.out b off hA
        have hbm2 : b ≠ w.heap.size := by omega
        have hbm3 : w.heap.size ≠ b := by omega
        have HP := Lib.hid (show parseL s.toList = (none, x.1, 4) from HPK.out)
        clear hpp S6 S5 hT hrt hle hqq hx hdr hm
        go_wp2_with fail
        go_quiet (fail)
        go_wp2_with fail
        go_region
        go_wp2_with fail
        generalize nq + 1 = nr at *
        have X6 := X5.out.past (Go.below_drewN ((Below.refl (w.heap.size + 1) w5).alloc (by omega) (.cells #[.int .u8 rv.kind, .string (bs rv.dep.name), .int .u8 rv.dep.op, .int .i64 rv.dep.evr.epoch, .string (bs rv.dep.evr.ver), .string (bs rv.dep.evr.rel), .slice rv.addr rv.args.length rv.cap] 29)) nr)
        have XF := X6.store (.int .u8 0) (.string ⟨#[]⟩) (.int .u8 0) (.int .i64 0) (.string ⟨#[]⟩) (.string ⟨#[]⟩) (.slice none 0 0)
        unfold store7 at XF
        obtain ⟨⟨j0, j1, j2, j3, j4, j5, j6⟩, _⟩ := XF
        refine bodyPost_ret (v := .tuple #[zR, .int .i64 (x.1 : Int), .int .i64 4]) (by simp [zR, results, Tryz.results12, go_sem, j0, j1, j2, j3, j4, j5, j6]; try rfl) rfl ?_
        exact ParsePost.no HP.out (store7_below (Nat.le_refl _) (Go.below_drewN (B5.out.alloc B5.out.size _) nr) _ _ _ _ _ _ _)
  · have n0 : (n == 0) = false := by simp only [beq_eq_false_iff_ne]; exact hn
    have n1 : (n != 0) = true := by simp only [bne, n0, Bool.not_false]
    have HP := Lib.hid (show parseL s.toList = (none, p, n) by unfold parseL; rw [HW.out]; exact if_pos hn)
    clear hn
    go_wp2_with fail
    have XF := X1.out.store (.int .u8 0) (.string ⟨#[]⟩) (.int .u8 0) (.int .i64 0) (.string ⟨#[]⟩) (.string ⟨#[]⟩) (.slice none 0 0)
    unfold store7 at XF
    obtain ⟨⟨j0, j1, j2, j3, j4, j5, j6⟩, _⟩ := XF
    refine bodyPost_ret (v := .tuple #[zRV.val, .int .i64 (p : Int), .int .i64 n]) (by simp [zRV, RV.val, RV.kind, RV.dep, RV.addr, RV.args, RV.cap, zeroT, zeroE, results, Tryz.results12, go_sem, j0, j1, j2, j3, j4, j5, j6]; try rfl) rfl ?_
    exact ParsePost.no HP.out (store7_below (Nat.le_refl _) HB.out _ _ _ _ _ _ _)
end Go.Proofs.YtnfagaccbkeikaaGreatDoor
