/- RtBrk -/
import Derived.Test.YtnfagaccbkeikaaGreatDoorRichReadsRowG35
import Derived.Test.YtnfagaccbkeikaaGreatDoorRichReadsRowG36
import Derived.Test.YtnfagaccbkeikaaGreatDoorRichReadsRowG37
import Derived.Test.YtnfagaccbkeikaaGreatDoorRichReadsRowG38
import Derived.Deep.CutRange
import Derived.Deep.CutBlock
/- Walks: a part is read, at a bracket, and at whatever depth (chandleryref08.reader's read). -/






namespace Go.Proofs.YtnfagaccbkeikaaGreatDoor
open Go.RowKit Go.Shelf
set_option linter.unusedVariables false

/-- does another part follow, as the reference asks it? -/
def moreB (q : Int) (w : Bytes) (m : Nat) : Bool := (w == kwd q && (q == 2 || (q == 3 || q == 6))) || (w == wElse && (decide (m = 2) && (q == 4 || q == 5)))
theorem moreB_iff {q m : Nat} {w : Bytes} (h2 : 2 ≤ q) (h8 : q < 8) (hm : 2 ≤ m) (hm2 : m ≤ 23) : moreB (q : Int) w m = true ↔ ¬ (mostK (q : Int) ≤ m ∨ w ≠ betweenK (q : Int) m) := by
  obtain rfl | rfl | rfl | rfl | rfl | rfl : q = 2 ∨ q = 3 ∨ q = 4 ∨ q = 5 ∨ q = 6 ∨ q = 7 := by omega
  all_goals
    by_cases hm3 : m = 2
    · subst hm3
      simp [moreB, mostK, betweenK]
    · simp [moreB, mostK, betweenK, hm3]
      try omega
set_option maxRecDepth 100000 in
set_option maxHeartbeats 16000000 in
theorem rtread_e {w0 : World} {R e : Nat} {ws : List Tok} {A : Option Addr} {c : Nat} {d o q n : Nat} {W : World} (h : RS w0 R e ws A c q n W) {vs : List Tok} (hvs : ws.drop q = vs) (hn : n ≤ 24) (hd : d + (o + 1) = 8) (hp : RSays w0 R e ws A c d (o + 1)) (q2 : atT vs = [40]) (q4 : n ≠ 24) : Calls Tryz.prog 51 #[.pointer (some ⟨R, 0, none⟩), .int .i64 (o : Int)] W (RPost w0 R e ws A c W (partP e (d + 1) vs n)) := by
  have H := Lib.hid h
  have hR := h.lt
  have hb2 := h.base
  have hle := h.le
  have hlen := h.len
  have NX := Lib.hid (fun q n W (h : RS w0 R e ws A c q n W) => rtnext_any W h)
  have n1 := NX.out q n _ (h.then ((Below.refl _ _).alloc (Nat.le_refl _) (.cells #[.int .u8 0, .string ⟨#[]⟩, .int .u8 0, .int .i64 0, .string ⟨#[]⟩, .string ⟨#[]⟩, .slice none 0 0] 29)))
  rw [hvs] at n1
  obtain ⟨s, hs⟩ : ∃ s, s = bs (atT vs) := ⟨_, rfl⟩
  have hsl : s.toList = atT vs := by rw [hs, bs_toList]
  obtain ⟨pl, hpl⟩ : ∃ pl, pl = atPl e vs := ⟨_, rfl⟩
  rw [← hs, ← hpl] at n1
  have N1 := Lib.hid n1
  have X0 := Lib.hid (show zBox W.heap.size (W.alloc (.cells #[.int .u8 0, .string ⟨#[]⟩, .int .u8 0, .int .i64 0, .string ⟨#[]⟩, .string ⟨#[]⟩, .slice none 0 0] 29)) from Box7.new W _ _ _ _ _ _ _ _)
  clear n1
  obtain ⟨x, vs', rfl⟩ : ∃ x vs', vs = x :: vs' := by
    cases vs with
    | nil => cases q2
    | cons x vs' => exact ⟨x, vs', rfl⟩
  obtain ⟨hq, hx, hdr⟩ := drop_cons hvs
  have q1 : ¬ (atT (x :: vs') = [] ∨ atT (x :: vs') = [41]) := by rw [q2]; decide
  have HPB := Lib.hid (show partP e (d + 1) (x :: vs') n = bracketP e (partP e d) vs' (n + 1) from partP_bracket (head_d q1 (fun hh => by cases hh.2) q4) q2)
  have t0 : s.toList.isEmpty = false := by rw [hsl, q2]; rfl
  have t1 : (s.toList == [41]) = false := by rw [hsl, q2]; decide
  have t2 : (s.toList == [40]) = true := by rw [hsl, q2]; decide
  have t3 : (s.toList != [40]) = false := by simp only [bne, t2, Bool.not_true]
  have t4 : ((o : Int) == 8) = false := by simp only [beq_eq_false_iff_ne]; omega
  have g1 : (n : Int) ≤ 23 := by omega
  have qb : (q : Int) ≤ 10000 := by omega
  have qb0 : (0 : Int) ≤ (q : Int) := by omega
  have o0 : (0 : Int) ≤ (o : Int) := by omega
  have o7 : (o : Int) ≤ 7 := by omega
  have HQ := Lib.hid hq
  have HP := Lib.hid (show ∀ (q n : Nat) (W : World), n ≤ 24 → RS w0 R e ws A c q n W → Calls Tryz.prog 51 #[.pointer (some ⟨R, 0, none⟩), .int .i64 ((o : Int) + 1)] W (RPost w0 R e ws A c W (partP e d (ws.drop q) n)) by have h5 := hp; unfold RSays at h5; rw [show ((o + 1 : Nat) : Int) = (o : Int) + 1 by omega] at h5; exact h5)
  have HN := Lib.hid (show n + 1 ≤ 24 by omega)
  have HDR := Lib.hid hdr
  clear h hvs hs hsl hpl q1 q2 q4 hq hx hdr hle hp hd hn
  go_enter Tryz.func51, Tryz.ntmps51
  go_wp2_with fail
  go_at_call 90
  refine N1.out.mono ?_
  rintro en w1 ⟨rfl, hb1⟩
  have S1 := Lib.hid ((H.out.then ((Below.refl _ _).alloc (Nat.le_refl _) _)).then hb1)
  have X1 := Lib.hid (show zBox W.heap.size w1 from X0.out.past (hb1.mono (by simp)))
  have B1 := Lib.hid (((ButR.refl R W).alloc _).trans (.of hb1))
  have z1 := hb1.size
  rw [World.size_alloc] at z1
  have c2 := S1.out.c2
  have c3 := S1.out.c3
  have f2' := S1.out.f2
  have f3' := S1.out.f3
  have c0 := S1.out.c0
  clear hb1 N1 X0
  obtain ⟨⟨h0, h1, h2, h3, h4, h5, h6⟩, ⟨k0, k1, k2, k3, k4, k5, k6⟩, hl⟩ := X1.out
  go_wp2_with fail
  go_at_call 51
  have e1 : (((n + 1 : Nat)) : Int) = (n : Int) + 1 := by omega
  have e2 : (((q + 1 : Nat)) : Int) = (q : Int) + 1 := by omega
  have S2 := (S1.out.setN (n + 1)).setAt (q + 1) HQ.out
  rw [e1, e2] at S2
  have X2 := Lib.hid (show zBox W.heap.size ((w1.setCell ⟨R, 3, none⟩ (.int .i64 ((n : Int) + 1))).setCell ⟨R, 2, none⟩ (.int .i64 ((q : Int) + 1))) from (X1.out.butR ((ButR.refl R _).set 3 _) (by omega)).butR ((ButR.refl R _).set 2 _) (by omega))
  have B2 := Lib.hid ((B1.out.set 3 (.int .i64 ((n : Int) + 1))).set 2 (.int .i64 ((q : Int) + 1)))
  have hzz : ((w1.setCell ⟨R, 3, none⟩ (.int .i64 ((n : Int) + 1))).setCell ⟨R, 2, none⟩ (.int .i64 ((q : Int) + 1))).heap.size = w1.heap.size := by simp [World.setCell]
  generalize (w1.setCell ⟨R, 3, none⟩ (.int .i64 ((n : Int) + 1))).setCell ⟨R, 2, none⟩ (.int .i64 ((q : Int) + 1)) = w2 at *
  have z2 : W.heap.size + 1 ≤ w2.heap.size := by rw [hzz]; exact z1
  clear hzz
  refine (HP.out (q + 1) (n + 1) _ HN.out S2).mono ?_
  rintro en w3 ⟨hB3, hPP⟩
  have B3 := Lib.hid (B2.out.trans hB3)
  have X3 := Lib.hid (show zBox W.heap.size w3 from X2.out.butR hB3 (by omega))
  have z3 := hB3.size
  rw [HDR.out] at hPP
  clear hB3 S2 X2 B2 S1 X1 B1 h0 h1 h2 h3 h4 h5 h6 k0 k1 k2 k3 k4 k5 k6 hl c0 c2 c3 f2' f3'
  cases hpp : partP e d vs' (n + 1) with
  | stop p y =>
    have HR := Lib.hid (show partP e (d + 1) (x :: vs') n = .stop p y by rw [HPB.out]; unfold bracketP; rw [hpp])
    have hy := (part_stop e d vs' (n + 1) p y HN.out hpp).2
    have y0 : (y == 0) = false := by simp only [beq_eq_false_iff_ne]; omega
    have y1 : (y != 0) = true := by simp only [bne, y0, Bool.not_false]
    rw [hpp] at hPP
    simp only at hPP
    subst hPP
    clear hpp hy
    unfold zR
    obtain ⟨⟨h0, h1, h2, h3, h4, h5, h6⟩, ⟨k0, k1, k2, k3, k4, k5, k6⟩, hl⟩ := X3.out
    go_wp2_with fail
    have XF := (X3.out.store (.int .u8 0) (.string ⟨#[]⟩) (.int .u8 0) (.int .i64 0) (.string ⟨#[]⟩) (.string ⟨#[]⟩) (.slice none 0 0)).past ((Below.refl _ _).alloc (by rw [store7_size]; exact hl) (.cells #[.int .u8 0, .string ⟨#[]⟩, .int .u8 0, .int .i64 0, .string ⟨#[]⟩, .string ⟨#[]⟩, .slice none 0 0] 29))
    unfold store7 at XF
    obtain ⟨⟨j0, j1, j2, j3, j4, j5, j6⟩, _⟩ := XF
    refine bodyPost_ret (v := .tuple #[zR, .int .i64 (p : Int), .int .i64 y]) (by simp [zR, results, Tryz.results51, go_sem, j0, j1, j2, j3, j4, j5, j6]; try rfl) rfl ?_
    exact RPost.stop HR.out ((store7_but (Nat.le_refl _) B3.out _ _ _ _ _ _ _).alloc _)
  | ok a vs1 n1 =>
    rw [hpp] at hPP
    obtain ⟨rv, qa, hrt, hda, rfl, hT, S3⟩ := hPP
    have HR := Lib.hid (show bracketP e (partP e d) vs' (n + 1) = if kindOf (atT vs1) = 0 then .stop (atPl e vs1) 4 else moreP e (partP e d) (kindOf (atT vs1)) 25 [a] vs1 n1 by unfold bracketP; rw [hpp])
    have hok := part_ok e d _ _ _ _ _ HN.out hpp
    have HN1 := Lib.hid (show n + 2 ≤ n1 ∧ n1 ≤ 24 from ⟨by have := hok.2.1; have := parts_pos a; omega, hok.2.2.1⟩)
    clear hpp hok
    unfold RV.val
    go_wp2_with fail
    go_at_call 90
    have hzb : (w3.alloc (.cells #[.int .u8 rv.kind, .string (bs rv.dep.name), .int .u8 rv.dep.op, .int .i64 rv.dep.evr.epoch, .string (bs rv.dep.evr.ver), .string (bs rv.dep.evr.rel), .slice rv.addr rv.args.length rv.cap] 29)).heap.size = w3.heap.size + 1 := by simp
    have BR := RBr.start (W := W) (w2 := w2) (w3 := w3.alloc (.cells #[.int .u8 rv.kind, .string (bs rv.dep.name), .int .u8 rv.dep.op, .int .i64 rv.dep.evr.epoch, .string (bs rv.dep.evr.ver), .string (bs rv.dep.evr.rel), .slice rv.addr rv.args.length rv.cap] 29)) (rv := rv) (B3.out.alloc _) (X3.out.past ((Below.refl _ _).alloc (by omega) _)) (hT.keep (fun b hb => ⟨hb.1, by rw [hzb]; have := hb.2; omega⟩) (fun b hb => Below.heap_alloc _ _ _ hb.2)) z2 (by rw [hzb]; omega) (S3.then ((Below.refl _ _).alloc (Nat.le_refl _) _)) hR
    rw [hzb] at BR
    obtain ⟨m2, hm2⟩ : ∃ m2, m2 = w3.heap.size + 1 + 1 := ⟨_, rfl⟩
    obtain ⟨g3, hg3⟩ : ∃ g3, g3 = w3.heap.size + 1 := ⟨_, rfl⟩
    obtain ⟨s1, hs1⟩ : ∃ s1, s1 = bs (atT vs1) := ⟨_, rfl⟩
    obtain ⟨pl1, hpl1⟩ : ∃ pl1, pl1 = atPl e vs1 := ⟨_, rfl⟩
    have n3 := NX.out qa n1 _ BR.st
    rw [hda, ← hs1, ← hpl1] at n3
    rw [← hm2]
    rw [← hg3]
    rw [← hm2] at BR
    rw [← hg3] at BR n3
    refine n3.mono ?_
    rintro en w5 ⟨rfl, hb5⟩
    have BR5 := Lib.hid (BR.call (.of hb5) (BR.st.then hb5))
    have HS1 := Lib.hid hs1
    have HPL1 := Lib.hid hpl1
    have HDA := Lib.hid hda
    have HRT := Lib.hid hrt
    clear hb5 BR hT S3 X3 B3 hm2 hg3 hzb n3 hs1 hpl1 hda hrt z3 z2
    generalize hvv : (Value.slice (some ⟨g3, 0, none⟩) 1 1) = v at *
    clear hvv
    go_wp2_with fail
    go_loopw [22] (fun kk wr => ∃ j : Nat, 2 ≤ j ∧ j ≤ 8 ∧ kk = .int .u8 (j : Int) ∧ RBr w0 R e ws A c W.heap.size m2 W (upTo j (atT vs1)) [rv] v qa n1 wr) (fun kk _ => 8 - (intOf kk).toNat)
    case atStart => exact ⟨2, by omega, by omega, rfl, by rw [upTo_2]; exact BR5.out⟩
    case round =>
      obtain ⟨j, hj, hj8, rfl, hB⟩ := hrel
      rename World => wr
      have HB := Lib.hid hB
      clear hB
      by_cases hlt : j < 8
      · have j1 : (j : Int) ≤ 7 := by omega
        have j0 : (0 : Int) ≤ (j : Int) := by omega
        have HW := Lib.hid (rtword_any j hj hlt wr)
        obtain ⟨kw, hkw⟩ : ∃ kw, kw = bs (kwd (j : Int)) := ⟨_, rfl⟩
        rw [← hkw] at HW
        by_cases hk : kindOf (atT vs1) = (j : Int)
        · have e1 : kw = s1 := by rw [hkw, HS1.out, (kwd_at hj hlt (atT vs1)).2 hk]
          have hne : kw.toList.isEmpty = false := by rw [hkw, bs_toList]; cases he : (kwd (j : Int)).isEmpty with | false => rfl | true => exact absurd (List.isEmpty_iff.1 he) (kwd_ne _)
          have HK := Lib.hid hk
          clear hkw hk
          subst e1
          have hne2 : (!kw.toList.isEmpty) = true := by rw [hne]; rfl
          go_wp2_with fail
          go_at_call 93
          refine HW.out.mono ?_
          rintro en w6 ⟨rfl, hb6⟩
          have HB6 := Lib.hid (HB.out.call (.of hb6) (HB.out.st.then hb6))
          obtain ⟨⟨h0, h1, h2, h3, h4, h5, h6⟩, ⟨k0, k1, k2, k3, k4, k5, k6⟩, hl⟩ := HB6.out.out
          clear hb6 HB
          go_wp2_with fail
          go_roundw
          case rel => exact ⟨j + 1, by omega, by omega, by go_num, by rw [upTo_hit HK.out]; exact HB6.out.kind _⟩
          case measure => simp [intOf]; omega
        · have e1 : (kw.toList == s1.toList) = false := by
            rw [hkw, HS1.out, bs_toList, bs_toList]
            simp only [beq_eq_false_iff_ne]
            exact fun hh => hk ((kwd_at hj hlt (atT vs1)).1 hh)
          have HK := Lib.hid hk
          clear hkw hk
          go_wp2_with fail
          go_at_call 93
          refine HW.out.mono ?_
          rintro en w6 ⟨rfl, hb6⟩
          have HB6 := Lib.hid (HB.out.call (.of hb6) (HB.out.st.then hb6))
          clear hb6 HB
          go_wp2_with fail
          go_roundw
          case rel => exact ⟨j + 1, by omega, by omega, by go_num, by rw [upTo_miss HK.out]; exact HB6.out⟩
          case measure => simp [intOf]; omega
      · obtain rfl : j = 8 := by omega
        rw [upTo_8] at HB
        rw [show ((8 : Nat) : Int) = 8 from rfl]
        by_cases hk0 : kindOf (atT vs1) = 0
        · have HR2 := Lib.hid (show partP e (d + 1) (x :: vs') n = .stop pl1 4 by rw [HPB.out, HR.out, if_pos hk0, HPL1.out])
          rw [hk0] at HB
          obtain ⟨⟨h0, h1, h2, h3, h4, h5, h6⟩, ⟨k0, k1, k2, k3, k4, k5, k6⟩, hl⟩ := HB.out.out
          have XR := Lib.hid HB.out.res
          have BB := Lib.hid HB.out.but
          have hlt2 := HB.out.lt
          obtain ⟨⟨r0, r1, r2, r3, r4, r5, r6⟩, ⟨p0, p1, p2, p3, p4, p5, p6⟩, rl⟩ := XR.out
          clear hk0 HR BR5
          go_wp2_with fail
          have XF := XR.out.store (.int .u8 0) (.string ⟨#[]⟩) (.int .u8 0) (.int .i64 0) (.string ⟨#[]⟩) (.string ⟨#[]⟩) (.slice none 0 0)
          unfold store7 at XF
          obtain ⟨⟨j0, j1, j2, j3, j4, j5, j6⟩, _⟩ := XF
          refine bodyPost_ret (v := .tuple #[zR, .int .i64 (pl1 : Int), .int .i64 4]) (by simp [zR, results, Tryz.results51, go_sem, j0, j1, j2, j3, j4, j5, j6]; try rfl) rfl ?_
          exact RPost.stop HR2.out (store7_but (Nat.le_refl _) BB.out _ _ _ _ _ _ _)
        · have hkk := kindOf_kwd hk0
          obtain ⟨kq, hkq⟩ : ∃ kq : Nat, kindOf (atT vs1) = (kq : Int) := ⟨(kindOf (atT vs1)).toNat, by omega⟩
          have HR2 := Lib.hid (show bracketP e (partP e d) vs' (n + 1) = moreP e (partP e d) (kq : Int) 25 [a] vs1 n1 by rw [HR.out, if_neg hk0, hkq])
          rw [hkq] at HB hkk
          have hq2 : 2 ≤ kq := by omega
          have hq8 : kq < 8 := by omega
          have hqn : ((kq : Int) == 0) = false := by simp only [beq_eq_false_iff_ne]; omega
          have HBW := Lib.hid (show atT vs1 = betweenK (kq : Int) 1 by unfold betweenK; rw [if_neg (by omega)]; exact hkk.1.symm)
          have HMK := Lib.hid (mostK_two (kq : Int))
          have HMK2 := Lib.hid (mostK_le (kq : Int))
          obtain ⟨⟨h0, h1, h2, h3, h4, h5, h6⟩, ⟨k0, k1, k2, k3, k4, k5, k6⟩, hl⟩ := HB.out.out
          clear hk0 HR hkq hkk BR5 hj hj8 hlt
          go_wp2_with fail
          go_loopw [7, 8] (fun sw pp wr => ∃ (l : List RV) (v : Value) (qb n2 f : Nat), sw = .string (bs (atT (ws.drop qb))) ∧ pp = .int .i64 (atPl e (ws.drop qb) : Int) ∧ RBr w0 R e ws A c W.heap.size m2 W (kq : Int) l v qb n2 wr ∧ moreP e (partP e d) (kq : Int) f (treeL l) (ws.drop qb) n2 = bracketP e (partP e d) vs' (n + 1) ∧ f + l.length = 26 ∧ 1 ≤ l.length ∧ l.length + 1 ≤ n2 ∧ atT (ws.drop qb) = betweenK (kq : Int) l.length ∧ n2 ≤ 24 ∧ l.length + 1 ≤ mostK (kq : Int)) (fun _ _ wr => 26 - lenOf (wr.cell? ⟨m2, 6, none⟩))
          case atStart => exact ⟨[rv], v, qa, n1, 25, by rw [HDA.out, HS1.out], by rw [HDA.out, HPL1.out], HB.out, by rw [HDA.out, HR2.out]; simp [treeL, HRT.out], rfl, by simp, by have := HN1.out; simp; omega, by rw [HDA.out]; exact HBW.out, HN1.out.2, HMK.out⟩
          case round =>
            obtain ⟨l, v, qb, n2, f, rfl, rfl, hB, hM, hf, hl1, hl2, hat, hn2, hmk⟩ := hrel
            rename World => wr
            obtain ⟨y, r, hyr⟩ : ∃ y r, ws.drop qb = y :: r := by
              cases hh : ws.drop qb with
              | nil => rw [hh] at hat; exact absurd hat.symm (between_ne _ _)
              | cons y r => exact ⟨y, r, rfl⟩
            obtain ⟨hqb, hy, hdr⟩ := drop_cons hyr
            obtain ⟨f, rfl⟩ : ∃ f', f = f' + 1 := ⟨f - 1, by omega⟩
            rw [hyr] at hM
            have HBB := Lib.hid hB
            have HM := Lib.hid hM
            have HF := Lib.hid hf
            have HL1 := Lib.hid hl1
            have HL2 := Lib.hid hl2
            have HN2 := Lib.hid hn2
            have HQB := Lib.hid hqb
            have HDR2 := Lib.hid hdr
            have HMKL := Lib.hid hmk
            have d2 := hB.st.c2
            have d2f := hB.st.f2
            have qb1 : (qb : Int) ≤ 10000 := by omega
            have qb2 : (0 : Int) ≤ (qb : Int) := by omega
            have e5 : (((qb + 1 : Nat)) : Int) = (qb : Int) + 1 := by omega
            have BR7 := RBr.call hB ((ButR.refl R wr).set 2 (.int .i64 ((qb : Int) + 1))) (by have := hB.st.setAt (qb + 1) hqb; rw [e5] at this; exact this)
            have hlt7 := hB.lt
            have hz7 := hB.out.2.2
            have hv7 : ∀ b, v.ownBlock = some b → b < wr.heap.size := fun b hb => (World.ownsRow.lt hB.own b hb).2
            clear hB hM hf hl1 hl2 hn2 hat hyr hqb hy hdr hmk HB h0 h1 h2 h3 h4 h5 h6 k0 k1 k2 k3 k4 k5 k6 hl e5
            go_wp2_with fail
            go_at_call 51
            have hzs : (wr.setCell ⟨R, 2, none⟩ (.int .i64 ((qb : Int) + 1))).heap.size = wr.heap.size := by simp [World.setCell]
            generalize wr.setCell ⟨R, 2, none⟩ (.int .i64 ((qb : Int) + 1)) = w7 at *
            rw [← hzs] at hz7 hv7
            clear hzs d2 d2f
            have HLT := Lib.hid hlt7
            have HV7 := Lib.hid hv7
            have HZ7 := Lib.hid hz7
            refine (HP.out (qb + 1) n2 w7 HN2.out BR7.st).mono ?_
            rintro en w8 ⟨hB8, hPP⟩
            rw [HDR2.out] at hPP
            have hz8 := hB8.size
            clear hv7
            cases hpp : partP e d r n2 with
            | stop p z =>
              have HR3 := Lib.hid (show partP e (d + 1) (x :: vs') n = .stop p z by rw [HPB.out, ← HM.out]; unfold moreP; rw [List.tail_cons, hpp])
              have hy := (part_stop e d r n2 p z HN2.out hpp).2
              have y0 : (z == 0) = false := by simp only [beq_eq_false_iff_ne]; omega
              have y1 : (z != 0) = true := by simp only [bne, y0, Bool.not_false]
              rw [hpp] at hPP
              simp only at hPP
              subst hPP
              have XR := Lib.hid (show zBox W.heap.size w8 from BR7.res.butR hB8 (by omega))
              have BB := Lib.hid (BR7.but.trans hB8)
              clear hpp hy BR7 hB8
              unfold zR
              obtain ⟨⟨h0, h1, h2, h3, h4, h5, h6⟩, ⟨k0, k1, k2, k3, k4, k5, k6⟩, hl⟩ := XR.out
              go_wp2_with fail
              have XF := (XR.out.store (.int .u8 0) (.string ⟨#[]⟩) (.int .u8 0) (.int .i64 0) (.string ⟨#[]⟩) (.string ⟨#[]⟩) (.slice none 0 0)).past ((Below.refl _ _).alloc (by rw [store7_size]; exact hl) (.cells #[.int .u8 0, .string ⟨#[]⟩, .int .u8 0, .int .i64 0, .string ⟨#[]⟩, .string ⟨#[]⟩, .slice none 0 0] 29))
              unfold store7 at XF
              obtain ⟨⟨j0, j1, j2, j3, j4, j5, j6⟩, _⟩ := XF
              refine bodyPost_ret (v := .tuple #[zR, .int .i64 (p : Int), .int .i64 z]) (by simp [zR, results, Tryz.results51, go_sem, j0, j1, j2, j3, j4, j5, j6]; try rfl) rfl ?_
              exact RPost.stop HR3.out ((store7_but (Nat.le_refl _) BB.out _ _ _ _ _ _ _).alloc _)
            | ok b ws3 n3 =>
              rw [hpp] at hPP
              obtain ⟨rvb, qc, hrt2, hdc, rfl, hT8, S8⟩ := hPP
              have HR3 := Lib.hid (show bracketP e (partP e d) vs' (n + 1) = if atT ws3 = [41] then .ok (.mk (kq : Int) zeroT (treeL l ++ [b])) ws3.tail n3 else if mostK (kq : Int) ≤ l.length + 1 ∨ atT ws3 ≠ betweenK (kq : Int) (l.length + 1) then .stop (atPl e ws3) 4 else moreP e (partP e d) (kq : Int) f (treeL l ++ [b]) ws3 n3 by rw [← HM.out]; rw [more_next (by rw [List.tail_cons]; exact hpp), treeL_len])
              have hok := part_ok e d _ _ _ _ _ HN2.out hpp
              have HN3 := Lib.hid (show l.length + 2 ≤ n3 ∧ n3 ≤ 24 from ⟨by have := hok.2.1; have := parts_pos b; have := HL2.out; omega, hok.2.2.1⟩)
              clear hpp hok
              have BR8 := BR7.call hB8 S8
              have BR9 := BR8.call (.of ((Below.refl _ _).alloc (Nat.le_refl _) (.cells #[.int .u8 rvb.kind, .string (bs rvb.dep.name), .int .u8 rvb.dep.op, .int .i64 rvb.dep.evr.epoch, .string (bs rvb.dep.evr.ver), .string (bs rvb.dep.evr.rel), .slice rvb.addr rvb.args.length rvb.cap] 29))) (S8.then ((Below.refl _ _).alloc (Nat.le_refl _) _))
              have hz9 : (w8.alloc (.cells #[.int .u8 rvb.kind, .string (bs rvb.dep.name), .int .u8 rvb.dep.op, .int .i64 rvb.dep.evr.epoch, .string (bs rvb.dep.evr.ver), .string (bs rvb.dep.evr.rel), .slice rvb.addr rvb.args.length rvb.cap] 29)).heap.size = w8.heap.size + 1 := by simp
              have HT9 := Lib.hid (hT8.keep (Q' := fun b => w7.heap.size ≤ b ∧ b < (w8.alloc (.cells #[.int .u8 rvb.kind, .string (bs rvb.dep.name), .int .u8 rvb.dep.op, .int .i64 rvb.dep.evr.epoch, .string (bs rvb.dep.evr.ver), .string (bs rvb.dep.evr.rel), .slice rvb.addr rvb.args.length rvb.cap] 29)).heap.size) (W' := w8.alloc (.cells #[.int .u8 rvb.kind, .string (bs rvb.dep.name), .int .u8 rvb.dep.op, .int .i64 rvb.dep.evr.epoch, .string (bs rvb.dep.evr.ver), .string (bs rvb.dep.evr.rel), .slice rvb.addr rvb.args.length rvb.cap] 29)) (fun b hb => ⟨hb.1, by rw [hz9]; have := hb.2; omega⟩) (fun b hb => Below.heap_alloc _ _ _ hb.2))
              have HBR9 := Lib.hid BR9
              have HRT2 := Lib.hid hrt2
              have HDC := Lib.hid hdc
              have p6 := BR9.out.1.2.2.2.2.2.2
              have RL := Lib.hid (rd_lit (w8.alloc (.cells #[.int .u8 rvb.kind, .string (bs rvb.dep.name), .int .u8 rvb.dep.op, .int .i64 rvb.dep.evr.epoch, .string (bs rvb.dep.evr.ver), .string (bs rvb.dep.evr.rel), .slice rvb.addr rvb.args.length rvb.cap] 29)) rvb)
              have HLL := Lib.hid (show l.length ≤ 24 by have := HN3.out; omega)
              rw [hz9] at RL
              clear BR7 BR8 BR9 hB8 S8 hT8 hrt2 hdc
              unfold RV.val
              obtain ⟨Av, cv, rfl⟩ := own_shape HBR9.out.own
              go_wp2_with (at_builtin; refine Hid.out ?_)
              refine Lib.hid ?_
              refine wpList_append_rd (P := Tryz.prog) _ rfl _ _ 27 rfl (W.heap.size + 1) 29 _ _ 7 _ (by rfl) (by rfl) (by rfl) (by rfl) (by rfl) (by rfl) (by decide) encR_len encR_one _ l.length (l.flatMap encR) rfl (World.ownsRow.alloc HBR9.out.own _) _ (some ⟨w8.heap.size + 1, 0, none⟩) 1 [rvb] 1 rfl rfl RL.out (by have := HLL.out; simp; omega) (by decide) (by have := HZ7.out; have := HLT.out; simp; omega) ?_
              intro v2 w9 ho2 hg2 hv2
              simp only [List.length_cons, List.length_nil, Nat.zero_add, List.flatMap_cons, List.flatMap_nil, List.append_nil] at ho2
              obtain ⟨y6, z6, zl⟩ := HBR9.out.held hg2
              have BR10 := Lib.hid (HBR9.out.arg HT9.out HZ7.out HV7.out ho2 hg2 hv2)
              obtain ⟨AA, cc, rfl⟩ := own_shape ho2
              clear ho2 hg2 hv2 p6 RL HT9
              obtain ⟨s3, hs3⟩ : ∃ s3, s3 = bs (atT ws3) := ⟨_, rfl⟩
              obtain ⟨pl3, hpl3⟩ : ∃ pl3, pl3 = atPl e ws3 := ⟨_, rfl⟩
              have hs3l : s3.toList = atT ws3 := by rw [hs3, bs_toList]
              have n4 := NX.out qc n3 _ BR10.out.st
              rw [HDC.out, ← hs3, ← hpl3] at n4
              have N4 := Lib.hid n4
              clear n4
              go_wp2_with fail
              go_at_call 90
              generalize w9.setCell ⟨m2, 6, none⟩ (.slice AA (l.length + 1) cc) = w10 at *
              refine N4.out.mono ?_
              rintro en w11 ⟨rfl, hb11⟩
              have BR11 := Lib.hid (BR10.out.call (.of hb11) (BR10.out.st.then hb11))
              have HS3 := Lib.hid hs3
              have HPL3 := Lib.hid hpl3
              clear hb11 BR10 N4 y6 z6 zl hs3 hpl3
              by_cases q1 : atT ws3 = [41]
              · have u1 : (s3.toList == [41]) = true := by rw [hs3l, q1]; decide
                obtain ⟨z, r3, rfl⟩ : ∃ z r3, ws3 = z :: r3 := by
                  cases ws3 with
                  | nil => cases q1
                  | cons z r3 => exact ⟨z, r3, rfl⟩
                have HR4 := Lib.hid (show partP e (d + 1) (x :: vs') n = .ok (.mk (kq : Int) zeroT (treeL l ++ [b])) r3 n3 by rw [HPB.out, HR3.out, if_pos q1]; rfl)
                obtain ⟨hqc, hz, hdr3⟩ := drop_cons HDC.out
                have HDR3 := Lib.hid hdr3
                have qc1 : (qc : Int) ≤ 10000 := by omega
                have qc2 : (0 : Int) ≤ (qc : Int) := by omega
                have e6 : (((qc + 1 : Nat)) : Int) = (qc : Int) + 1 := by omega
                have c2 := BR11.out.st.c2
                have f2' := BR11.out.st.f2
                have BR12 := RBr.call BR11.out ((ButR.refl R w11).set 2 (.int .i64 ((qc : Int) + 1))) (by have := BR11.out.st.setAt (qc + 1) hqc; rw [e6] at this; exact this)
                have HB12 := Lib.hid BR12
                have hlt3 := BR12.lt
                have XRH := Lib.hid BR12.res
                have XO := BR12.out
                obtain ⟨⟨h0, h1, h2, h3, h4, h5, h6⟩, ⟨k0, k1, k2, k3, k4, k5, k6⟩, hl⟩ := XO
                obtain ⟨⟨r0, r1, r2, r3', r4, r5, r6⟩, ⟨p0, p1, p2, p3, p4, p5, p6⟩, rl⟩ := XRH.out
                clear q1 hs3l BR12 hqc hz hdr3 e6
                go_wp2_with fail
                have XF := XRH.out.store (.int .u8 (kq : Int)) (.string ⟨#[]⟩) (.int .u8 0) (.int .i64 0) (.string ⟨#[]⟩) (.string ⟨#[]⟩) (.slice AA (l.length + 1) cc)
                unfold store7 at XF
                obtain ⟨⟨j0, j1, j2, j3, j4, j5, j6⟩, _⟩ := XF
                refine bodyPost_ret (v := .tuple #[(RV.node (kq : Int) zeroT AA cc (l ++ [rvb])).val, .int .i64 0, .int .i64 0]) (by simp [RV.val, RV.kind, RV.dep, RV.addr, RV.args, RV.cap, zeroT, zeroE, results, Tryz.results51, go_sem, j0, j1, j2, j3, j4, j5, j6]; try rfl) rfl ?_
                rw [HR4.out]
                exact ⟨store7_but (Nat.le_refl _) HB12.out.but _ _ _ _ _ _ _, RV.node (kq : Int) zeroT AA cc (l ++ [rvb]), qc + 1, by simp only [RV.tree, treeL_app, treeL, HRT2.out], HDR3.out, rfl, (HB12.out.node).2.store (by omega) (by omega) _ _ _ _ _ _ _, HB12.out.st.past (store7_below (by omega) (Below.refl _ _) _ _ _ _ _ _ _)⟩
              · have u1 : (s3.toList == [41]) = false := by rw [hs3l]; simp only [beq_eq_false_iff_ne]; exact q1
                have HQ1 := Lib.hid q1
                have HS3L := Lib.hid hs3l
                clear q1 hs3l
                go_upto_region 46 with fail
                go_cut [26] from 177 to 261 (fun s W' => s = .bool (moreB (kq : Int) (atT ws3) (l.length + 1)) ∧ RBr w0 R e ws A c W.heap.size m2 W (kq : Int) (l ++ [rvb]) (.slice AA (l.length + 1) cc) qc n3 W')
                case first =>
                  obtain ⟨sk, hsk⟩ : ∃ sk, sk = bs (kwd (kq : Int)) := ⟨_, rfl⟩
                  have HW := Lib.hid (fun W => rtword_any kq hq2 hq8 W)
                  rw [← hsk] at HW
                  have hl2 : decide (l.length + 1 = 2) = ((l.length : Int) + 1 == 2) := by rw [Bool.eq_iff_iff]; simp; omega
                  have HMB := Lib.hid (show moreB (kq : Int) (atT ws3) (l.length + 1) = ((s3.toList == sk.toList && ((kq : Int) == 2 || ((kq : Int) == 3 || (kq : Int) == 6))) || (s3.toList == [101, 108, 115, 101] && (((l.length : Int) + 1 == 2) && ((kq : Int) == 4 || (kq : Int) == 5)))) by unfold moreB; rw [hl2, HS3L.out, hsk, bs_toList]; rfl)
                  obtain ⟨⟨h0, h1, h2, h3, h4, h5, h6⟩, ⟨k0, k1, k2, k3, k4, k5, k6⟩, hl⟩ := BR11.out.out
                  clear hsk hl2 u1
                  go_wp2_with fail
                  go_at_call 93
                  refine (HW.out _).mono ?_
                  rintro en w12 ⟨rfl, hb12⟩
                  have BR12 := Lib.hid (BR11.out.call (.of hb12) (BR11.out.st.then hb12))
                  clear hb12 HW h0 h1 h2 h3 h4 h5 h6 k0 k1 k2 k3 k4 k5 k6 hl
                  obtain ⟨⟨h0, h1, h2, h3, h4, h5, h6⟩, ⟨k0, k1, k2, k3, k4, k5, k6⟩, hl⟩ := BR12.out.out
                  clear hq2 hq8 hqn HMK HMK2 HBW HR2 HM HBB HMKL BR11 HBR9 HR3
                  cases hb1 : s3.toList == sk.toList
                  · cases hb2 : s3.toList == [101, 108, 115, 101]
                    · go_wp2_with fail
                      go_meet
                      case rel => exact ⟨by rw [HMB.out]; simp [hb1, hb2], BR12.out⟩
                    · cases hb3 : (l.length : Int) + 1 == 2
                      · go_wp2_with fail
                        go_meet
                        case rel => exact ⟨by rw [HMB.out]; simp [hb1, hb2, hb3], BR12.out⟩
                      · cases c4 : (kq : Int) == 4
                        · cases c5 : (kq : Int) == 5
                          · go_wp2_with fail
                            go_meet
                            case rel => exact ⟨by rw [HMB.out]; simp [hb1, hb2, hb3, c4, c5], BR12.out⟩
                          · go_wp2_with fail
                            go_meet
                            case rel => exact ⟨by rw [HMB.out]; simp [hb1, hb2, hb3, c4, c5], BR12.out⟩
                        · go_wp2_with fail
                          go_meet
                          case rel => exact ⟨by rw [HMB.out]; simp [hb1, hb2, hb3, c4], BR12.out⟩
                  · cases c2 : (kq : Int) == 2
                    · cases c3 : (kq : Int) == 3
                      · cases c6 : (kq : Int) == 6
                        · cases hb2 : s3.toList == [101, 108, 115, 101]
                          · go_wp2_with fail
                            go_meet
                            case rel => exact ⟨by rw [HMB.out]; simp [hb1, c2, c3, c6, hb2], BR12.out⟩
                          · cases hb3 : (l.length : Int) + 1 == 2
                            · go_wp2_with fail
                              go_meet
                              case rel => exact ⟨by rw [HMB.out]; simp [hb1, c2, c3, c6, hb2, hb3], BR12.out⟩
                            · cases c4 : (kq : Int) == 4
                              · cases c5 : (kq : Int) == 5
                                · go_wp2_with fail
                                  go_meet
                                  case rel => exact ⟨by rw [HMB.out]; simp [hb1, c2, c3, c6, hb2, hb3, c4, c5], BR12.out⟩
                                · go_wp2_with fail
                                  go_meet
                                  case rel => exact ⟨by rw [HMB.out]; simp [hb1, c2, c3, c6, hb2, hb3, c4, c5], BR12.out⟩
                              · go_wp2_with fail
                                go_meet
                                case rel => exact ⟨by rw [HMB.out]; simp [hb1, c2, c3, c6, hb2, hb3, c4], BR12.out⟩
                        · go_wp2_with fail
                          go_meet
                          case rel => exact ⟨by rw [HMB.out]; simp [hb1, c2, c3, c6], BR12.out⟩
                      · go_wp2_with fail
                        go_meet
                        case rel => exact ⟨by rw [HMB.out]; simp [hb1, c2, c3], BR12.out⟩
                    · go_wp2_with fail
                      go_meet
                      case rel => exact ⟨by rw [HMB.out]; simp [hb1, c2], BR12.out⟩
                case rest =>
                  obtain ⟨rfl, hB13⟩ := hcut
                  have BR13 := Lib.hid hB13
                  clear hB13 BR11
                  have HMI := Lib.hid (moreB_iff (q := kq) (w := atT ws3) (m := l.length + 1) hq2 hq8 (by have := HL1.out; omega) (by have := HN3.out; omega))
                  cases hmb : moreB (kq : Int) (atT ws3) (l.length + 1)
                  · have HR4 := Lib.hid (show partP e (d + 1) (x :: vs') n = .stop pl3 4 by rw [HPB.out, HR3.out, if_neg HQ1.out, if_pos (Decidable.byContradiction fun hh => by have := HMI.out.2 hh; rw [hmb] at this; cases this), HPL3.out])
                    obtain ⟨⟨h0, h1, h2, h3, h4, h5, h6⟩, ⟨k0, k1, k2, k3, k4, k5, k6⟩, hl⟩ := BR13.out.out
                    have hlt4 := BR13.out.lt
                    have XR := Lib.hid BR13.out.res
                    have BB := Lib.hid BR13.out.but
                    obtain ⟨⟨r0, r1, r2, r3, r4, r5, r6⟩, ⟨p0, p1, p2, p3, p4, p5, p6⟩, rl⟩ := XR.out
                    clear hmb
                    go_wp2_with fail
                    have XF := XR.out.store (.int .u8 0) (.string ⟨#[]⟩) (.int .u8 0) (.int .i64 0) (.string ⟨#[]⟩) (.string ⟨#[]⟩) (.slice none 0 0)
                    unfold store7 at XF
                    obtain ⟨⟨j0, j1, j2, j3, j4, j5, j6⟩, _⟩ := XF
                    refine bodyPost_ret (v := .tuple #[zR, .int .i64 (pl3 : Int), .int .i64 4]) (by simp [zR, results, Tryz.results51, go_sem, j0, j1, j2, j3, j4, j5, j6]; try rfl) rfl ?_
                    exact RPost.stop HR4.out (store7_but (Nat.le_refl _) BB.out _ _ _ _ _ _ _)
                  · have hnm := HMI.out.1 hmb
                    have HR4 := Lib.hid (show bracketP e (partP e d) vs' (n + 1) = moreP e (partP e d) (kq : Int) f (treeL l ++ [b]) ws3 n3 by rw [HR3.out, if_neg HQ1.out, if_neg hnm])
                    have HQ3 := Lib.hid (show atT ws3 = betweenK (kq : Int) (l.length + 1) from Decidable.byContradiction fun hh => hnm (.inr hh))
                    have HQM := Lib.hid (show l.length + 2 ≤ mostK (kq : Int) from by have : ¬ mostK (kq : Int) ≤ l.length + 1 := fun hh => hnm (.inl hh); omega)
                    clear hnm hmb
                    go_wp2_with fail
                    go_roundw
                    case rel =>
                      exact ⟨l ++ [rvb], .slice AA (l.length + 1) cc, qc, n3, f, by rw [HDC.out, HS3.out], by rw [HDC.out, HPL3.out], BR13.out, by rw [HDC.out, treeL_app, show treeL [rvb] = [b] by simp [treeL, HRT2.out], ← HR4.out], by have := HF.out; simp only [List.length_append, List.length_singleton]; omega, by simp, by have := HN3.out; simp only [List.length_append, List.length_singleton]; omega, by rw [HDC.out]; simpa using HQ3.out, HN3.out.2, by have := HQM.out; simp only [List.length_append, List.length_singleton]; omega⟩
                    case measure =>
                      rw [BR13.out.out.1.2.2.2.2.2.2, HBB.out.out.1.2.2.2.2.2.2]
                      simp only [lenOf]
                      have := HLL.out
                      omega
end Go.Proofs.YtnfagaccbkeikaaGreatDoor
