/- RichBrk -/
import Derived.Test.YtnfagaccbkeikaaGreatDoorRichReadsRowG28
import Derived.Test.YtnfagaccbkeikaaGreatDoorRichReadsRowG36
import Derived.Deep.RegionLaw
/- Walks: all that is no plain dependency is read (rich.reader's bracket): the walk. -/



namespace Go.Proofs.YtnfagaccbkeikaaGreatDoor
open Go.RowKit Go.Shelf
set_option linter.unusedVariables false

def lenOf : Option Value → Nat | some (.slice _ n _) => n | _ => 0
theorem kwd_at {k : Nat} (h2 : 2 ≤ k) (h7 : k < 8) (w : Bytes) : (kwd (k : Int) = w ↔ kindOf w = (k : Int)) := by
  constructor
  · intro h; rw [← h]; exact kindOf_word (by omega) (by omega)
  · intro h
    have := (kindOf_kwd (w := w) (by omega)).1
    rw [h] at this
    exact this
/-- the kind that was found among the first words -/
def upTo (j : Nat) (w : Bytes) : Int := if kindOf w < (j : Int) then kindOf w else 0
theorem kindOf_le (w : Bytes) : 0 ≤ kindOf w ∧ kindOf w ≤ 7 := by
  unfold kindOf; repeat' split
  all_goals omega
theorem upTo_2 (w : Bytes) : upTo 2 w = 0 := by
  unfold upTo
  split
  · rename_i h
    have h0 := kindOf_le w
    by_cases hk : kindOf w = 0
    · exact hk
    · have := (kindOf_kwd hk).2.1; omega
  · rfl
theorem upTo_8 (w : Bytes) : upTo 8 w = kindOf w := by unfold upTo; rw [if_pos (by have := kindOf_le w; omega)]
theorem upTo_hit {j : Nat} {w : Bytes} (h : kindOf w = (j : Int)) : upTo (j + 1) w = (j : Int) := by unfold upTo; rw [if_pos (by omega), h]
theorem upTo_miss {j : Nat} {w : Bytes} (h : ¬ kindOf w = (j : Int)) : upTo (j + 1) w = upTo j w := by
  unfold upTo
  by_cases h1 : kindOf w < (j : Int)
  · rw [if_pos (by omega), if_pos h1]
  · rw [if_neg (by omega), if_neg h1]
theorem more_next {e : Nat} {p : List Tok → Nat → PR} {k : Int} {f : Nat} {l : List RT} {ws ws' : List Tok} {n n' : Nat} {b : RT} (h : p ws.tail n = .ok b ws' n') : moreP e p k (f + 1) l ws n = if atT ws' = [41] then .ok (.mk k zeroT (l ++ [b])) ws'.tail n' else if mostK k ≤ l.length + 1 ∨ atT ws' ≠ betweenK k (l.length + 1) then .stop (atPl e ws') 4 else moreP e p k f (l ++ [b]) ws' n' := by
  rw [moreP, h]
theorem rd_lit (w : World) (t : RV) : Rd encR 7 (w.heap.size + 1) (some ⟨w.heap.size, 0, none⟩) 1 [t] (w.alloc (.cells #[.int .u8 t.kind, .string (bs t.dep.name), .int .u8 t.dep.op, .int .i64 t.dep.evr.epoch, .string (bs t.dep.evr.ver), .string (bs t.dep.evr.rel), .slice t.addr t.args.length t.cap] 29)) := by
  refine ⟨Nat.le_refl _, by decide, fun k hk => ⟨w.heap.size, 0, rfl, Nat.lt_succ_self _, fun j u hu => ?_⟩⟩
  have hk0 : k = 0 := by simp at hk; omega
  subst hk0
  rw [Nat.zero_mul, Nat.add_zero, Nat.zero_add]
  refine (World.cell?_alloc_at _ _ _ _ rfl).trans ?_
  rw [← Array.getElem?_toList]
  exact hu
set_option maxRecDepth 100000 in
set_option maxHeartbeats 16000000 in
theorem rbracket_says {w0 : World} (hI : RichIn w0) {R e o d : Nat} (hd : d + (o + 1) = 8) (hp : PartSays w0 R e (o + 1) d) : BracketSays w0 R e o d := by
  intro x ws n A c W pl hn h
  have H := Lib.hid h
  have HI := Lib.hid hI
  have HP := Lib.hid hp
  have hR := h.lt
  have hb2 := h.base
  have o1 : (0 : Int) ≤ (o : Int) := by omega
  have o2 : (o : Int) ≤ 7 := by omega
  have HN := Lib.hid hn
  clear h hI hp hd hn
  go_enter Tryz.func88, Tryz.ntmps88
  go_wp2_with fail
  go_at_call 131
  refine (rtake_cons _ (H.out.then ((Below.refl _ _).alloc (Nat.le_refl _) _))).mono ?_
  rintro en w1 ⟨rfl, hB1, A1, c1, S1⟩
  have X1 : zBox W.heap.size w1 := (Box7.new W _ _ _ _ _ _ _ _).butR hB1 (by omega)
  have B1 := ((ButR.refl R W).alloc _).trans hB1
  have c3 := S1.c3
  have f3 := S1.f3
  have hz1 : W.heap.size + 1 ≤ w1.heap.size := by have := hB1.size; simpa using this
  clear hB1
  go_wp2_with fail
  go_at_call 48
  have S2 := S1.setOpen (o + 1)
  rw [show ((o + 1 : Nat) : Int) = (o : Int) + 1 by omega] at S2
  have X2 : zBox W.heap.size (w1.setCell ⟨R, 3, none⟩ (.int .i64 ((o : Int) + 1))) := X1.butR ((ButR.refl R _).set 3 _) (by omega)
  have B2 := B1.set 3 (.int .i64 ((o : Int) + 1))
  have hz2 : W.heap.size + 1 ≤ (w1.setCell ⟨R, 3, none⟩ (.int .i64 ((o : Int) + 1))).heap.size := by simpa [World.setCell] using hz1
  clear S1 X1 B1 c3 f3 hz1
  generalize w1.setCell ⟨R, 3, none⟩ (.int .i64 ((o : Int) + 1)) = w2 at *
  refine (HP.out ws (n + 1) _ _ _ HN.out S2).mono ?_
  rintro en w3 ⟨hB3, hPP⟩
  have B3 := B2.trans hB3
  have X3 : zBox W.heap.size w3 := X2.butR hB3 (by omega)
  have hz3 := hB3.size
  clear S2 X2 B2 hB3
  cases hpp : partP e d ws (n + 1) with
  | stop p y =>
    have HR := Lib.hid (show bracketP e (partP e d) ws (n + 1) = .stop p y by unfold bracketP; rw [hpp])
    rw [hpp] at hPP
    simp only at hPP
    subst hPP
    clear hpp
    unfold stopV
    go_wp2_with fail
    exact ⟨rfl, PartPost.stop HR.out B3⟩
  | ok a vs n' =>
    have HR := Lib.hid (show bracketP e (partP e d) ws (n + 1) = if kindOf (atT vs) = 0 then .stop (atPl e vs) 4 else moreP e (partP e d) (kindOf (atT vs)) 25 [a] vs n' by unfold bracketP; rw [hpp])
    rw [hpp] at hPP
    obtain ⟨rv, hrt, rfl, hT, A3, c3, S3⟩ := hPP
    have HNN := Lib.hid (part_ok e d _ _ _ _ _ HN.out hpp).2.2.1
    clear hpp
    unfold RV.val
    go_wp2_with fail
    go_at_call 49
    have BR := Br.start (o := o) B3 X3 hT hz2 hz3 ⟨A3, c3, S3⟩ hR
    obtain ⟨A4, c4, S4⟩ := BR.st
    obtain ⟨sv, hsv⟩ : ∃ sv, sv = bs (atT vs) := ⟨_, rfl⟩
    have HSV := Lib.hid hsv
    have hq := rat_any _ S4
    rw [← hsv] at hq
    refine hq.mono ?_
    rintro en w5 ⟨rfl, hB5, S5⟩
    have BR5 := Lib.hid (BR.call hB5 ⟨_, _, S5⟩)
    obtain ⟨m2, hm2⟩ : ∃ m2, m2 = w3.heap.size + 1 := ⟨_, rfl⟩
    obtain ⟨g3, hg3⟩ : ∃ g3, g3 = w3.heap.size := ⟨_, rfl⟩
    rw [← hm2, ← hg3] at BR5
    rw [← hg3] at hm2
    have HG := Lib.hid hm2
    clear hq hsv BR S4 S5 hT S3 hB5 B3 X3 hz3 hz2
    rw [← hg3, ← hm2]
    clear hg3 hm2
    generalize hvv : (Value.slice (some ⟨g3, 0, none⟩) 1 1) = v at *
    clear hvv
    go_wp2_with fail
    go_loopw [8] (fun kk wr => ∃ j : Nat, 2 ≤ j ∧ j ≤ 8 ∧ kk = .int .u8 (j : Int) ∧ Br w0 R e o W.heap.size m2 W (upTo j (atT vs)) [rv] v vs n' wr) (fun kk _ => 8 - (intOf kk).toNat)
    case atStart => exact ⟨2, by omega, by omega, rfl, by rw [upTo_2]; exact BR5.out⟩
    case round =>
      obtain ⟨j, hj, hj8, rfl, hB⟩ := hrel
      rename World => wr
      have j0 : (0 : Int) ≤ (j : Int) := by omega
      by_cases hlt : j < 8
      · have i1 : (j : Int) ≤ 7 := by omega
        have i2 : (j : Int) < 8 := by omega
        obtain ⟨A6, c6, S6⟩ := hB.st
        obtain ⟨k0, k1⟩ := (HI.out.2.past (Nat.le_refl _) S6.old).at_ hj hlt
        obtain ⟨kw, hkw⟩ : ∃ kw, kw = bs (kwd (j : Int)) := ⟨_, rfl⟩
        rw [← hkw] at k0
        obtain ⟨⟨h0, h1, h2, h3, h4, h5, h6⟩, ⟨f0, f1, f2, f3, f4, f5, f6⟩, hl⟩ := hB.out
        have HB := Lib.hid hB
        by_cases hk : kindOf (atT vs) = (j : Int)
        · have e1 : kw = sv := by rw [hkw, HSV.out, (kwd_at hj hlt (atT vs)).2 hk]
          have HK := Lib.hid hk
          clear hB hkw S6 hk k1
          subst e1
          go_wp2_with fail
          exact ⟨⟨j + 1, by omega, by omega, by go_num, by rw [upTo_hit HK.out]; exact HB.out.kind _⟩, by simp [intOf]; omega⟩
        · have e1 : (kw.toList == sv.toList) = false := by
            rw [hkw, HSV.out, bs_toList, bs_toList]
            simp only [beq_eq_false_iff_ne]
            exact fun hh => hk ((kwd_at hj hlt (atT vs)).1 hh)
          have HK := Lib.hid hk
          clear hB hkw S6 hk k1
          go_wp2_with fail
          exact ⟨⟨j + 1, by omega, by omega, by go_num, by rw [upTo_miss HK.out]; exact HB.out⟩, by simp [intOf]; omega⟩
      · obtain rfl : j = 8 := by omega
        rw [upTo_8] at hB
        rw [show ((8 : Nat) : Int) = 8 from rfl]
        by_cases hk0 : kindOf (atT vs) = 0
        · have HR2 := Lib.hid (show bracketP e (partP e d) ws (n + 1) = .stop (atPl e vs) 4 by rw [HR.out, if_pos hk0])
          rw [hk0] at hB
          have HB := Lib.hid hB
          obtain ⟨⟨h0, h1, h2, h3, h4, h5, h6⟩, ⟨f0, f1, f2, f3, f4, f5, f6⟩, hl⟩ := hB.out
          clear hB hk0 HR
          go_wp2_with fail
          exact ⟨rfl, PartPost.stop HR2.out HB.out.but⟩
        · have hkk := kindOf_kwd hk0
          obtain ⟨q, hq⟩ : ∃ q : Nat, kindOf (atT vs) = (q : Int) := ⟨(kindOf (atT vs)).toNat, by omega⟩
          have HR2 := Lib.hid (show bracketP e (partP e d) ws (n + 1) = moreP e (partP e d) (q : Int) 25 [a] vs n' by rw [HR.out, if_neg hk0, hq])
          rw [hq] at hB hkk
          have hq2 : 2 ≤ q := by omega
          have hq8 : q < 8 := by omega
          have hqn : ((q : Int) == 0) = false := by simp only [beq_eq_false_iff_ne]; omega
          have HBW := Lib.hid (show atT vs = betweenK (q : Int) 1 by unfold betweenK; rw [if_neg (by omega)]; exact hkk.1.symm)
          have HMK := Lib.hid (mostK_two (q : Int))
          have HMK2 := Lib.hid (mostK_le (q : Int))
          have HB := Lib.hid hB
          obtain ⟨⟨h0, h1, h2, h3, h4, h5, h6⟩, ⟨f0, f1, f2, f3, f4, f5, f6⟩, hl⟩ := hB.out
          clear hB hk0 HR hq hkk
          go_wp2_with fail
          go_loopw [6, 7] (fun sw pp wr => ∃ (l : List RV) (v : Value) (ws2 : List Tok) (n2 f : Nat), sw = .string (bs (atT ws2)) ∧ pp = .int .i64 (atPl e ws2 : Int) ∧ Br w0 R e o W.heap.size m2 W (q : Int) l v ws2 n2 wr ∧ moreP e (partP e d) (q : Int) f (treeL l) ws2 n2 = bracketP e (partP e d) ws (n + 1) ∧ f + l.length = 26 ∧ 1 ≤ l.length ∧ l.length + 1 ≤ mostK (q : Int) ∧ atT ws2 = betweenK (q : Int) l.length ∧ n2 ≤ 24) (fun _ _ wr => 26 - lenOf (wr.cell? ⟨m2, 6, none⟩))
          case atStart => exact ⟨[rv], v, vs, n', 25, by rw [HSV.out], rfl, HB.out, by rw [HR2.out]; simp [treeL, hrt], rfl, by simp, HMK.out, HBW.out, HNN.out⟩
          case round =>
            obtain ⟨l, v, ws2, n2, f, rfl, rfl, hB, hM, hf, hl1, hl2, hat, hn2⟩ := hrel
            rename World => wr
            obtain ⟨y, r, rfl⟩ : ∃ y r, ws2 = y :: r := by
              cases ws2 with
              | nil => exact absurd hat.symm (between_ne _ _)
              | cons y r => exact ⟨y, r, rfl⟩
            obtain ⟨f, rfl⟩ : ∃ f', f = f' + 1 := ⟨f - 1, by have := HMK2.out; omega⟩
            obtain ⟨A7, c7, S7⟩ := hB.st
            have HB := Lib.hid hB
            have HM := Lib.hid hM
            have HF := Lib.hid hf
            have HL1 := Lib.hid hl1
            have HL2 := Lib.hid hl2
            have HN2 := Lib.hid hn2
            clear hB hM hf hl1 hl2 hn2 hat
            clear h0 h1 h2 h3 h4 h5 h6 f0 f1 f2 f3 f4 f5 f6 hl
            go_wp2_with fail
            go_at_call 131
            refine (rtake_cons _ S7).mono ?_
            rintro en w7 ⟨rfl, hB7, A8, c8, S8⟩
            have BR7 := Lib.hid (HB.out.call hB7 ⟨_, _, S8⟩)
            obtain ⟨⟨h0, h1, h2, h3, h4, h5, h6⟩, ⟨f0, f1, f2, f3, f4, f5, f6⟩, hl⟩ := BR7.out.out
            clear hB7 S7
            cases hpp : partP e d r n2 with
            | stop p z =>
              have HR3 := Lib.hid (show bracketP e (partP e d) ws (n + 1) = .stop p z by rw [← HM.out]; unfold moreP; rw [List.tail_cons, hpp])
              have HQ := Lib.hid (fun (W' : World) (hb : Below w7.heap.size w7 W') => HP.out r n2 A8 c8 W' HN2.out (S8.then hb))
              rw [hpp] at HQ
              clear hpp S8
              go_wp2_with fail
              refine wp_region_held_drew (S := fun W' => W'.cell? ⟨m2, 6, none⟩ = some v) (by kernel_rfl) h6 (fun hHeld => ?_)
              refine held_take 0 (some 48) ?_ rfl rfl (by kernel_rfl) (by kernel_rfl) (by kernel_rfl) (fun _ _ _ h => h) (by assumption) (by rfl) ?_ ?_
              rotate_left
              · intro w hSw
                try dsimp only at hSw
                try simp only [List.getElem_toArray, List.getElem_cons_zero]
                go_simp
                try with_reducible rfl
              try simp only [Act.put, List.setIfInBounds_toArray, List.set_cons_zero, List.set_cons_succ]
              refine held_take 1 (some 49) ?_ rfl rfl (by kernel_rfl) (by kernel_rfl) (by kernel_rfl) (fun _ _ _ h => h) (by assumption) (by rfl) ?_ ?_
              rotate_left
              · intro w hSw
                try dsimp only at hSw
                try simp only [List.getElem_toArray, List.getElem_cons_succ, List.getElem_cons_zero]
                go_simp
                try with_reducible rfl
              try simp only [Act.put, List.setIfInBounds_toArray, List.set_cons_zero, List.set_cons_succ]
              refine held_take 2 (some 50) ?_ rfl rfl (by kernel_rfl) (by kernel_rfl) (by kernel_rfl) (fun _ _ _ h => h) (by assumption) (by rfl) ?_ ?_
              rotate_left
              · intro w hSw
                try dsimp only at hSw
                try simp only [List.getElem_toArray, List.getElem_cons_succ, List.getElem_cons_zero]
                go_simp
                try with_reducible rfl
              try simp only [Act.put, List.setIfInBounds_toArray, List.set_cons_zero, List.set_cons_succ]
              refine wpAnyH_ready (rs := [3]) (by kernel_rfl) (by simp) ?_
              refine AllReadyH.cons rfl (fun K hK => ?_) AllReadyH.nil
              try simp only [List.getElem_toArray, List.getElem_cons_succ, List.getElem_cons_zero]
              go_simp
              go_at_call 48
              refine (HQ.out _ (Below.refl _ _).drew).mono ?_
              rintro en w8 ⟨hB8, rfl⟩
              unfold stopV
              dsimp only
              exact ⟨rfl, PartPost.stop HR3.out (BR7.out.but.drew.trans hB8)⟩
            | ok b ws3 n3 =>
              have HR3 := Lib.hid (show bracketP e (partP e d) ws (n + 1) = if atT ws3 = [41] then .ok (.mk (q : Int) zeroT (treeL l ++ [b])) ws3.tail n3 else if mostK (q : Int) ≤ l.length + 1 ∨ atT ws3 ≠ betweenK (q : Int) (l.length + 1) then .stop (atPl e ws3) 4 else moreP e (partP e d) (q : Int) f (treeL l ++ [b]) ws3 n3 by rw [← HM.out, more_next (show partP e d (y :: r).tail n2 = .ok b ws3 n3 from hpp), treeL_len])
              have HQ := Lib.hid (fun (W' : World) (hb : Below w7.heap.size w7 W') => HP.out r n2 A8 c8 W' HN2.out (S8.then hb))
              rw [hpp] at HQ
              have HN3 := Lib.hid (part_ok e d _ _ _ _ _ HN2.out hpp).2.2.1
              have hvs : ∀ b, v.ownBlock = some b → b < w7.drew.heap.size := fun b hb => (World.ownsRow.lt BR7.out.own b hb).2
              have HV := Lib.hid hvs
              have HLL := Lib.hid (show l.length ≤ 24 by have := HL2.out; have := HMK2.out; omega)
              clear hpp S8 hvs
              go_wp2_with fail
              go_region_law (first | (refine step_append_rd (P := Tryz.prog) _ rfl _ _ 27 rfl (W.heap.size + 1) 29 _ _ 7 _ (by rfl) (by rfl) (by rfl) (by rfl) (by rfl) (by rfl) (by decide) encR_len encR_one v _ _ rfl (World.ownsRow.alloc BR8.out.own _) (w8.heap.size + 1) (some ⟨w8.heap.size, 0, none⟩) 1 [rv2] 1 rfl rfl (rd_lit w8 rv2) (by have := HLL.out; simp; omega) (by decide) (by have := BR8.out.lt; simp; omega) ?_; intro v2 w9 ho2 hg2 hv2; simp only [List.length_cons, List.length_nil, Nat.zero_add, List.flatMap_cons, List.flatMap_nil, List.append_nil] at ho2; obtain ⟨y6, z6, zl⟩ := BR8.out.held hg2; obtain ⟨AA, cc, rfl⟩ := own_shape ho2) | (go_simp; go_at_call 48; refine (HQ.out _ (Below.refl _ _).drew).mono ?_; rintro en w8 ⟨hB8, rv2, hrt2, rfl, hT2, A9, c9, S9⟩; have BR7d := (BR7.out.call (ButR.refl R w7).drew (by obtain ⟨A, c, hS⟩ := BR7.out.st; exact ⟨A, c, hS.then (Below.refl _ _).drew⟩)); have BR8 := Lib.hid (BR7d.call hB8 ⟨A9, c9, S9⟩); have g6 := BR8.out.out.1.2.2.2.2.2.2; have el := BR8.out.out.2.2; have HT2 := Lib.hid hT2; have HLT := Lib.hid (show m2 < w7.drew.heap.size from BR7d.out.2.2); clear BR7d hT2 hB8 S9; have q6 : (w8.alloc (.cells #[.int .u8 rv2.kind, .string (bs rv2.dep.name), .int .u8 rv2.dep.op, .int .i64 rv2.dep.evr.epoch, .string (bs rv2.dep.evr.ver), .string (bs rv2.dep.evr.rel), .slice rv2.addr rv2.args.length rv2.cap] 29)).cell? ⟨m2, 6, none⟩ = some v := (World.cell?_alloc_lt w8 _ ⟨m2, 6, none⟩ el).trans g6; unfold RV.val; dsimp only))
              all_goals
                have BR9 := Lib.hid (BR8.out.arg HT2.out HLT.out HV.out ho2 hg2 hv2)
                clear y6 z6 zl q6 g6 el ho2 hg2 hv2 HT2
                generalize w9.setCell ⟨m2, 6, none⟩ (.slice AA (l.length + 1) cc) = w10 at *
                obtain ⟨A10, c10, S10⟩ := BR9.out.st
                obtain ⟨s3, hs3⟩ : ∃ s3, s3 = bs (atT ws3) := ⟨_, rfl⟩
                have hs3l : s3.toList = atT ws3 := by rw [hs3, bs_toList]
                have ha := rat_any _ S10
                rw [← hs3] at ha
                have HA := Lib.hid ha
                have HS3 := Lib.hid hs3
                clear ha hs3 S10 HQ BR7 BR8 h0 h1 h2 h3 h4 h5 h6 f0 f1 f2 f3 f4 f5 f6 hl
                by_cases q1 : atT ws3 = [41]
                · have t1 : (s3.toList == [41]) = true := by rw [hs3l, q1]; decide
                  obtain ⟨z, r3, rfl⟩ : ∃ z r3, ws3 = z :: r3 := by
                    cases ws3 with
                    | nil => cases q1
                    | cons z r3 => exact ⟨z, r3, rfl⟩
                  have HR4 := Lib.hid (show bracketP e (partP e d) ws (n + 1) = .ok (.mk (q : Int) zeroT (treeL l ++ [b])) r3 n3 by rw [HR3.out, if_pos q1]; rfl)
                  clear q1 hs3l
                  go_wp2_with fail
                  go_at_call 49
                  refine HA.out.mono ?_
                  rintro en w11 ⟨rfl, hB11, S11⟩
                  have BR11 := Lib.hid (BR9.out.call hB11 ⟨_, _, S11⟩)
                  clear BR9 HA hB11
                  go_wp2_with fail
                  go_at_call 131
                  refine (rtake_cons _ S11).mono ?_
                  rintro en w12 ⟨rfl, hB12, A12, c12, S12⟩
                  have BR12 := Lib.hid (BR11.out.call hB12 ⟨_, _, S12⟩)
                  have c3 := S12.c3
                  have f3 := S12.f3
                  rw [show ((o + 1 : Nat) : Int) = (o : Int) + 1 by omega] at c3
                  have hlt3 := BR12.out.lt
                  have XO := BR12.out.out.butR ((ButR.refl R _).set 3 (.int .i64 (o : Int))) (by omega)
                  have XR : Box7 W.heap.size _ _ _ _ _ _ _ _ := BR12.out.res.butR ((ButR.refl R _).set 3 (.int .i64 (o : Int))) (by omega)
                  have XRH := Lib.hid XR
                  obtain ⟨⟨h0, h1, h2, h3, h4, h5, h6⟩, ⟨f0, f1, f2, f3', f4, f5, f6⟩, hl⟩ := XO
                  obtain ⟨⟨r0, r1, r2, r3', r4, r5, r6⟩, ⟨k0, k1, k2, k3, k4, k5, k6⟩, rl⟩ := XR
                  have S13 := Lib.hid (S12.setOpen o)
                  have B13 := Lib.hid (BR12.out.but.set 3 (.int .i64 (o : Int)))
                  have T13 := Lib.hid ((BR12.out.node).2.butR ((ButR.refl R _).set 3 (.int .i64 (o : Int))) (by omega))
                  clear BR11 hB12 S11 BR12 S12
                  go_wp2_with fail
                  have XF := XRH.out.store (.int .u8 (q : Int)) (.string ⟨#[]⟩) (.int .u8 0) (.int .i64 0) (.string ⟨#[]⟩) (.string ⟨#[]⟩) (.slice AA (l.length + 1) cc)
                  unfold store7 at XF
                  obtain ⟨⟨j0, j1, j2, j3, j4, j5, j6⟩, _⟩ := XF
                  refine bodyPost_ret (v := (RV.node (q : Int) zeroT AA cc (l ++ [rv2])).val) (by simp [RV.val, RV.kind, RV.dep, RV.addr, RV.args, RV.cap, zeroT, zeroE, results, Tryz.results88, go_sem, j0, j1, j2, j3, j4, j5, j6]; rfl) rfl ?_
                  rw [HR4.out]
                  exact ⟨store7_but (Nat.le_refl _) B13.out _ _ _ _ _ _ _, RV.node (q : Int) zeroT AA cc (l ++ [rv2]), by simp only [RV.tree, treeL_app, treeL, hrt2], rfl, T13.out.store (by omega) (by omega) _ _ _ _ _ _ _, _, _, S13.out.past (store7_below (by omega) (Below.refl _ _) _ _ _ _ _ _ _)⟩
                · have t1 : (s3.toList == [41]) = false := by rw [hs3l]; simp only [beq_eq_false_iff_ne]; exact q1
                  obtain ⟨sb, hsb⟩ : ∃ sb, sb = bs (betweenK (q : Int) (l.length + 1)) := ⟨_, rfl⟩
                  have HSB := Lib.hid hsb
                  obtain ⟨mo, hmo⟩ : ∃ mo, mo = mostK (q : Int) := ⟨_, rfl⟩
                  have HMO := Lib.hid hmo
                  have HQ1 := Lib.hid q1
                  have hsbl : sb.toList = betweenK (q : Int) (l.length + 1) := by rw [hsb, bs_toList]
                  by_cases qm : mo ≤ l.length + 1
                  · have HR4 := Lib.hid (show bracketP e (partP e d) ws (n + 1) = .stop (atPl e ws3) 4 by rw [HR3.out, if_neg q1, if_pos (.inl (by rw [← hmo]; exact qm))])
                    have gm : (mo : Int) ≤ (l.length : Int) + 1 := by omega
                    clear q1 hs3l hsb hmo hsbl qm
                    go_wp2_with fail
                    go_at_call 49
                    refine HA.out.mono ?_
                    rintro en w11 ⟨rfl, hB11, S11⟩
                    have BR11 := Lib.hid (BR9.out.call hB11 ⟨_, _, S11⟩)
                    obtain ⟨x0, x1⟩ := (HI.out.2.past (Nat.le_refl _) S11.old).at_ hq2 hq8
                    rw [← HMO.out] at x1
                    obtain ⟨⟨h0, h1, h2, h3, h4, h5, h6⟩, ⟨f0, f1, f2, f3', f4, f5, f6⟩, hl⟩ := BR11.out.out
                    have k0 : (0 : Int) ≤ (q : Int) := by omega
                    have k1 : (q : Int) < 8 := by omega
                    clear BR9 HA hB11 S11 x0
                    go_wp2_with fail
                    exact ⟨rfl, PartPost.stop HR4.out BR11.out.but⟩
                  · have gm : ¬ ((mo : Int) ≤ (l.length : Int) + 1) := by omega
                    have HQM := Lib.hid qm
                    by_cases q3 : atT ws3 = betweenK (q : Int) (l.length + 1)
                    · have HR4 := Lib.hid (show bracketP e (partP e d) ws (n + 1) = moreP e (partP e d) (q : Int) f (treeL l ++ [b]) ws3 n3 by rw [HR3.out, if_neg q1, if_neg (by rw [← hmo]; exact fun hh => hh.elim qm (fun h => h q3))])
                      have e1 : s3 = sb := by rw [hsb, ← q3, HS3.out]
                      have HQ3 := Lib.hid q3
                      clear q1 hs3l hsb hmo hsbl qm q3 HSB
                      subst e1
                      go_wp2_with fail
                      go_at_call 49
                      refine HA.out.mono ?_
                      rintro en w11 ⟨rfl, hB11, S11⟩
                      have BR11 := Lib.hid (BR9.out.call hB11 ⟨_, _, S11⟩)
                      have KI := HI.out.2.past (Nat.le_refl _) S11.old
                      obtain ⟨x0, x1⟩ := KI.at_ hq2 hq8
                      rw [← HMO.out] at x1
                      obtain ⟨⟨h0, h1, h2, h3, h4, h5, h6⟩, ⟨f0, f1, f2, f3', f4, f5, f6⟩, hl⟩ := BR11.out.out
                      have k0 : (0 : Int) ≤ (q : Int) := by omega
                      have k1 : (q : Int) < 8 := by omega
                      have hbt := Lib.hid (rbetween_any q (l.length + 1) hq2 hq8 w11 KI)
                      rw [show ((l.length + 1 : Nat) : Int) = (l.length : Int) + 1 by omega, ← HQ3.out, ← HS3.out] at hbt
                      clear BR9 HA hB11 S11 x0 KI
                      go_wp2_with fail
                      go_at_call 134
                      refine hbt.out.mono ?_
                      rintro en w13 ⟨rfl, hB13⟩
                      have BR13 := Lib.hid (BR11.out.call (.of hB13) (by obtain ⟨A, c, hS⟩ := BR11.out.st; exact ⟨A, c, hS.then hB13⟩))
                      clear hB13
                      go_wp2_with fail
                      go_roundw
                      case rel => exact ⟨l ++ [rv2], .slice AA (l.length + 1) cc, ws3, n3, f, by rw [HS3.out], rfl, BR13.out, by rw [treeL_app, show treeL [rv2] = [b] by simp [treeL, hrt2], ← HR4.out], by have := HF.out; simp only [List.length_append, List.length_singleton]; omega, by simp, by have := HQM.out; have := HMO.out; simp only [List.length_append, List.length_singleton]; omega, by simpa using HQ3.out, HN3.out⟩
                      case measure =>
                        obtain ⟨Av, cv, hv, _⟩ := HB.out.own.rd encR_len
                        rw [BR13.out.out.1.2.2.2.2.2.2, HB.out.out.1.2.2.2.2.2.2, hv]
                        have := HLL.out
                        simp only [lenOf]
                        omega
                    · have HR4 := Lib.hid (show bracketP e (partP e d) ws (n + 1) = .stop (atPl e ws3) 4 by rw [HR3.out, if_neg q1, if_pos (.inr q3)])
                      have e1 : (s3.toList == sb.toList) = false := by rw [hs3l, hsbl]; simp only [beq_eq_false_iff_ne]; exact q3
                      have e2 : (s3.toList != sb.toList) = true := by simp only [bne, e1, Bool.not_false]
                      clear q1 hs3l hmo hsbl qm q3 hsb
                      go_wp2_with fail
                      go_at_call 49
                      refine HA.out.mono ?_
                      rintro en w11 ⟨rfl, hB11, S11⟩
                      have BR11 := Lib.hid (BR9.out.call hB11 ⟨_, _, S11⟩)
                      have KI := HI.out.2.past (Nat.le_refl _) S11.old
                      obtain ⟨x0, x1⟩ := KI.at_ hq2 hq8
                      rw [← HMO.out] at x1
                      obtain ⟨⟨h0, h1, h2, h3, h4, h5, h6⟩, ⟨f0, f1, f2, f3', f4, f5, f6⟩, hl⟩ := BR11.out.out
                      have k0 : (0 : Int) ≤ (q : Int) := by omega
                      have k1 : (q : Int) < 8 := by omega
                      have hbt := Lib.hid (rbetween_any q (l.length + 1) hq2 hq8 w11 KI)
                      rw [show ((l.length + 1 : Nat) : Int) = (l.length : Int) + 1 by omega, ← HSB.out] at hbt
                      clear BR9 HA hB11 S11 x0 KI
                      go_wp2_with fail
                      go_at_call 134
                      refine hbt.out.mono ?_
                      rintro en w13 ⟨rfl, hB13⟩
                      have B13 := Lib.hid (BR11.out.but.then hB13)
                      clear hB13
                      go_wp2_with fail
                      exact ⟨rfl, PartPost.stop HR4.out B13.out⟩
/-- a part is read, at whatever depth -/
theorem rpart_says {w0 : World} (hI : RichIn w0) {R e : Nat} : ∀ (d o : Nat), d + o = 8 → PartSays w0 R e o d
  | 0, o, h => rpart_of h (rplain_says hI R e o) (fun d' hd => by cases hd)
  | d + 1, o, h => rpart_of h (rplain_says hI R e o) (fun d' hd => by cases hd; exact rbracket_says hI (by omega) (rpart_says hI d (o + 1) (by omega)))
end Go.Proofs.YtnfagaccbkeikaaGreatDoor
