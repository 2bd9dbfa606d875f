/- RichAtom -/
import Derived.Test.YtnfagaccbkeikaaGreatDoorRichReadsRowG17
import Derived.Test.YtnfagaccbkeikaaGreatDoorRichReadsRowG18
import Derived.Test.YtnfagaccbkeikaaGreatDoorRichReadsRowG25
import Derived.Maps.AppendAt
/- Walks: a plain dependency is read out of words (rich.reader's plain). -/




namespace Go.Proofs.YtnfagaccbkeikaaGreatDoor
open Go.RowKit Go.Shelf
set_option linter.unusedVariables false

theorem dmay_wf {d : Dp} (h : dmayB d = true) : d.wf := by
  have hn := name_iff.1 (dmay_iff.1 h).1
  have hm := (dmay_iff.1 h).2.1
  refine ⟨by unfold maxLen; omega, opMay_wf hm, ?_⟩
  rcases (dmay_iff.1 h).2.2 with ⟨_, e⟩ | ⟨_, _, e⟩
  · rw [e]; exact ⟨rfl, Nat.zero_le _, Nat.zero_le _⟩
  · exact isEvr_wf (evOf_iff.2 ⟨e, rfl⟩)
theorem Box7.past {m : Nat} {a0 a1 a2 a3 a4 a5 a6 : Value} {W W' : World} (h : Box7 m a0 a1 a2 a3 a4 a5 a6 W) (hb : Below (m + 1) W W') : Box7 m a0 a1 a2 a3 a4 a5 a6 W' := by
  obtain ⟨⟨h0, h1, h2, h3, h4, h5, h6⟩, ⟨f0, f1, f2, f3, f4, f5, f6⟩, hl⟩ := h
  have hc : ∀ i, W'.cell? ⟨m, i, none⟩ = W.cell? ⟨m, i, none⟩ := fun i => hb.cell (p := ⟨m, i, none⟩) (Nat.lt_succ_self m)
  have hf : ∀ i, W'.frozen? ⟨m, i, none⟩ = W.frozen? ⟨m, i, none⟩ := fun i => hb.frozen (p := ⟨m, i, none⟩) (Nat.lt_succ_self m)
  exact ⟨⟨(hc 0).trans h0, (hc 1).trans h1, (hc 2).trans h2, (hc 3).trans h3, (hc 4).trans h4, (hc 5).trans h5, (hc 6).trans h6⟩, ⟨(hf 0).trans f0, (hf 1).trans f1, (hf 2).trans f2, (hf 3).trans f3, (hf 4).trans f4, (hf 5).trans f5, (hf 6).trans f6⟩, Nat.lt_of_lt_of_le hl hb.size⟩
/-- a plain one as it lies -/
def atomV (d : Dp) : RV := .node 1 d none 0 []
theorem atomV_tq {Q : Nat → Prop} {W : World} {d : Dp} (h : d.wf) : TQ Q W (atomV d) := .mk h (Nat.zero_le _) (Nat.zero_le _) (fun k hk => absurd hk (by simp [atomV, RV.args])) (fun a ha => by simp [atomV, RV.args] at ha)
theorem own_lit {α : Type} {enc : α → List Value} {size base : Nat} {e : TypeId} (w : World) (x : α) (cs : Array Value) (hcs : cs.toList = enc x) (hs : (enc x).length = size) (hb : base ≤ w.heap.size) :
    Own enc size base e (.slice (some ⟨w.heap.size, 0, none⟩) 1 1) [x] (w.alloc (.cells cs e)) := by
  have hcs2 : cs.size = size := by rw [← Array.length_toList, hcs, hs]
  refine ⟨by simp [hs], .inr ⟨w.heap.size, 1, cs, rfl, hb, World.alloc_heap_new w _, Nat.le_refl _, by decide, by rw [hcs2, Nat.one_mul], ?_⟩⟩
  rw [List.length_singleton, Nat.one_mul, List.take_of_length_le (by rw [Array.length_toList]; omega), hcs]
  simp
theorem dof_words {L : List Bytes} {v : Value} {W : World} {base : Nat} (hO : Own encStr 1 base 9 v (L.map bs) W) (hL : L.length ≤ 3) (hs : ∀ w ∈ L, w.length ≤ 10000) (hI : DpIn W) : Calls Tryz.prog 133 #[v] W fun e w' => e = .returned (ofV (dpOf L)) ∧ Below W.heap.size W w' := by
  obtain ⟨A, c, rfl, hT⟩ := TR.of_own (D := L.map bs) hO
  have h := dof_any A c (L.map bs) W (by simp; omega) (fun s hs' => by obtain ⟨w, hw, rfl⟩ := List.mem_map.1 hs'; rw [bs_size]; have := hs w hw; omega) hT hI
  have e : (L.map bs).map (·.toList) = L := by
    rw [List.map_map]
    exact (List.map_congr_left fun x _ => bs_toList x).trans (List.map_id _)
  rw [e] at h
  exact h
/-- what the end of plain comes to, the words being gathered -/
structure Gathered (w0 : World) (R e o : Nat) (ws : List Tok) (n : Nat) (j : Nat) (W : World) (v : Value) (wr : World) : Prop where
  but : ButR R W wr
  box : Box7 W.heap.size (.int .u8 0) (.string ⟨#[]⟩) (.int .u8 0) (.int .i64 0) (.string ⟨#[]⟩) (.string ⟨#[]⟩) (.slice none 0 0) wr
  own : Own encStr 1 (W.heap.size + 1) 9 v ((txt (ws.take (1 + j))).map bs) wr
  st : ∃ A c, St w0 R e (ws.drop (1 + j)) (n + 1) o A c wr
theorem Gathered.same {w0 : World} {R e o n j : Nat} {ws : List Tok} {W wr w' : World} {v : Value} (h : Gathered w0 R e o ws n j W v wr) (hd : ws.drop (1 + j) = []) (hb : ButR R wr w') (hS : ∃ A c, St w0 R e [] (n + 1) o A c w') (hR : R < W.heap.size) : Gathered w0 R e o ws n (j + 1) W v w' := by
  have hl := List.drop_eq_nil_iff.1 hd
  refine ⟨h.but.trans hb, h.box.butR hb (by omega), ?_, ?_⟩
  · rw [List.take_of_length_le (by omega)]
    have := h.own
    rw [List.take_of_length_le hl] at this
    exact this.butR hb (by omega)
  · rw [List.drop_eq_nil_iff.2 (by omega)]; exact hS
theorem Gathered.more {w0 : World} {R e o n j : Nat} {ws : List Tok} {W wr w5 w6 : World} {v v1 : Value} {y : Tok} {r : List Tok} {LL : List ByteArray} {cs : Obj} (h : Gathered w0 R e o ws n j W v wr) (hd : ws.drop (1 + j) = y :: r) (hb : ButR R wr w5) (hS : ∃ A c, St w0 R e r (n + 1) o A c w5) (hR : R < W.heap.size)
    (hLL : LL = List.map bs (txt (List.take (1 + j) ws))) (ho : w6.ownsRow (W.heap.size + 1) 9 1 v1 (LL.length + 1) (LL.flatMap encStr ++ [.string (bs y.2)])) (hg : (w5.alloc cs).grownBy w6 v.ownBlock) : Gathered w0 R e o ws n (j + 1) W v1 w6 := by
  have hl : 1 + j < ws.length := by
    have := congrArg List.length hd
    simp only [List.length_drop, List.length_cons] at this
    omega
  have he := List.drop_eq_getElem_cons hl
  rw [hd] at he
  obtain ⟨h1, h2⟩ := List.cons.inj he
  have ht : List.map bs (txt (ws.take (1 + (j + 1)))) = LL ++ [bs y.2] := by
    rw [hLL, show 1 + (j + 1) = 1 + j + 1 by omega, take_snoc _ _ hl, ← h1]
    simp [txt]
  have hm := h.box.2.2
  have hz := hb.size
  have hr : ∀ k, v.ownBlock = some k → W.heap.size + 1 ≤ k := fun k e => (World.ownsRow.lt h.own k e).1
  have hG : ∀ {B : Nat}, B ≤ W.heap.size + 1 → Below B (w5.alloc cs) w6 := fun hB => (Below.refl _ _).grown hg (by simp; omega) (fun k e => Nat.le_trans hB (hr k e))
  refine ⟨((h.but.trans hb).alloc _).grown hg (fun k e => Nat.le_of_succ_le (hr k e)), (((h.box.butR hb (by omega)).butR ((ButR.refl R _).alloc cs) (by omega))).past (hG (Nat.le_refl _)), ?_, ?_⟩
  · rw [ht]; exact Own.snoc ho
  · obtain ⟨A, c, hS⟩ := hS
    rw [show ws.drop (1 + (j + 1)) = r by rw [show 1 + (j + 1) = 1 + j + 1 by omega]; exact h2.symm]
    exact ⟨A, c, (hS.then ((Below.refl _ _).alloc (Nat.le_refl _) cs)).past (hG (by omega))⟩
theorem txt_small {ws : List Tok} (h : ∀ x ∈ ws, x.2.length ≤ 10000 ∧ x.1 ≤ 10000) (k : Nat) : ∀ w ∈ txt (ws.take k), w.length ≤ 10000 := by
  intro w hw
  obtain ⟨x, hx, rfl⟩ := List.mem_map.1 hw
  exact (h x (List.mem_of_mem_take hx)).1
theorem txt_len (ws : List Tok) (k : Nat) : (txt (ws.take k)).length ≤ k := by simp [txt]; omega
set_option maxRecDepth 100000 in
set_option maxHeartbeats 16000000 in
theorem rplain_says {w0 : World} (hI : RichIn w0) (R e o : Nat) : PlainSays w0 R e o := by
  intro x ws n A c W h
  have H := Lib.hid h
  have HI := Lib.hid hI
  have hR := h.lt
  have HSM := Lib.hid h.small
  obtain ⟨s, hs⟩ : ∃ s, s = bs (atT ws) := ⟨_, rfl⟩
  have hsl : s.toList = atT ws := by rw [hs, bs_toList]
  obtain ⟨x2, hx2⟩ : ∃ s, s = bs x.2 := ⟨_, rfl⟩
  obtain ⟨x1, hx1⟩ : ∃ s, s = x.1 := ⟨_, rfl⟩
  have hb2 := h.base
  have HT := Lib.hid (fun W h => rtake_cons (w0 := w0) (R := R) (e := e) (x := x) (ws := ws) (n := n + 1) (o := o) (A := A) (c := c) W h)
  rw [← hx2] at HT
  rw [← hx1]
  have HA := Lib.hid (fun A c W h => rat_any (w0 := w0) (R := R) (e := e) (ws := ws) (n := n + 1) (o := o) (A := A) (c := c) W h)
  rw [← hs] at HA
  have HX2 := Lib.hid hx2
  have HX1 := Lib.hid hx1
  have hss : s.size ≤ maxLen := by
    rw [hs, bs_size]
    cases ws with
    | nil => simp [atT]
    | cons y r => have := (h.small y (by simp)).1; simp only [atT]; unfold maxLen; omega
  have HSS := Lib.hid hss
  obtain ⟨op, is, hop⟩ : ∃ op is, opOf s.toList = (op, is) := ⟨_, _, rfl⟩
  have hN : plainN (x :: ws) = if (is && !(op == 0)) = true then 3 else 1 := by
    unfold plainN isOp
    rw [List.tail_cons, ← hsl, hop]
  have HN := Lib.hid hN
  have HO := Lib.hid hop
  clear h hI hs hsl hx2 hx1 hss hop hN
  go_enter Tryz.func87, Tryz.ntmps87
  go_wp2_with fail
  go_at_call 131
  refine (HT.out _ (H.out.then ((Below.refl _ _).alloc (Nat.le_refl _) _))).mono ?_
  rintro en w1 ⟨rfl, hB1, A1, c1, S1⟩
  have X1 := (Box7.new W _ _ _ _ _ _ _ _).butR hB1 (by omega)
  have B1 := ((ButR.refl R W).alloc _).trans hB1
  have hz1 : W.heap.size + 1 ≤ w1.heap.size := by have := hB1.size; simpa using this
  clear hB1
  go_wp2_with fail
  go_at_call 49
  have O1 : Own encStr 1 (W.heap.size + 1) 9 (.slice (some ⟨w1.heap.size, 0, none⟩) 1 1) [x2] (w1.alloc (.cells #[.string x2] 9)) := own_lit w1 x2 _ rfl rfl hz1
  refine (HA.out A1 c1 _ (S1.then ((Below.refl _ _).alloc (Nat.le_refl _) _))).mono ?_
  rintro en w2 ⟨rfl, hB2, S2⟩
  have G2 : Gathered w0 R e o (x :: ws) n 0 W (.slice (some ⟨w1.heap.size, 0, none⟩) 1 1) w2 := ⟨(B1.alloc _).trans hB2, (X1.butR ((ButR.refl R _).alloc _) (by omega)).butR hB2 (by omega), by
    have := O1.butR hB2 (by omega)
    rw [HX2.out] at this
    exact this, A1, c1, S2⟩
  clear S1 X1 B1 O1 hB2
  go_wp2_with fail
  go_at_call 132
  have I2 := RichIn.past HI.out (Nat.le_refl _) S2.old
  have hq := opParse_any s HSS.out w2 I2.1.2.1
  rw [HO.out] at hq
  refine hq.mono ?_
  rintro en w3 ⟨rfl, rfl⟩
  clear hq I2
  generalize w1.heap.size = g1 at *
  have G2 := Lib.hid G2
  clear S2 hz1
  by_cases q1 : is = true
  · subst q1
    by_cases q2 : (op == 0) = true
    · have hN : plainN (x :: ws) = 1 + 0 := by rw [HN.out, q2]; rfl
      have q5 : (op != 0) = false := by simp only [bne, q2, Bool.not_true]
      have HN1 := Lib.hid hN
      clear hN HN HO
      go_wp2_with fail
      go_at_call 133
      have G := G2.out
      obtain ⟨A2, c2, S2⟩ := G.st
      refine (dof_words G.own (Nat.le_trans (txt_len _ _) (by omega)) (txt_small HSM.out _) (RichIn.past HI.out (Nat.le_refl _) S2.old).1).mono ?_
      rintro en w4 ⟨rfl, hB4⟩
      have hr : plainP e (x :: ws) n = match dpOf (txt ((x :: ws).take (1 + 0))) with | none => .stop x.1 4 | some d => .ok (.mk 1 d []) ((x :: ws).drop (1 + 0)) (n + 1) := by unfold plainP; rw [HN1.out]; rfl
      have HB4 := G.but.then hB4
      have X4 := G.box.past (hB4.mono (by have := G.box.2.2; omega))
      have S4 := S2.then hB4
      generalize hdp : dpOf (txt ((x :: ws).take (1 + 0))) = dd at *
      cases dd with
      | none =>
        rw [ofV_none]
        unfold ZV
        have HRR := Lib.hid hr
        rw [← HX1.out] at HRR
        clear hr hdp G S2 hB4 S4 X4
        go_wp2_with fail
        exact ⟨rfl, PartPost.stop HRR.out (HB4.alloc _)⟩
      | some d =>
        have hm := (words_dpOf hdp).1
        have HM := Lib.hid (dmay_wf hm)
        have HRR := Lib.hid hr
        have XX := Lib.hid X4
        obtain ⟨⟨h0, h1, h2, h3, h4, h5, h6⟩, ⟨k0, k1, k2, k3, k4, k5, k6⟩, hl⟩ := X4
        unfold ofV
        dsimp only
        unfold Dp.val
        clear hr hdp G S2 hB4 hm
        go_wp2_with fail
        have XF := (XX.out.store (.int .u8 1) (.string (bs d.name)) (.int .u8 d.op) (.int .i64 d.evr.epoch) (.string (bs d.evr.ver)) (.string (bs d.evr.rel)) (.slice none 0 0)).past ((Below.refl _ _).alloc (by rw [store7_size]; exact hl) (.cells #[.string (bs d.name), .int .u8 d.op, .int .i64 d.evr.epoch, .string (bs d.evr.ver), .string (bs d.evr.rel)] 26))
        unfold store7 at XF
        obtain ⟨⟨j0, j1, j2, j3, j4, j5, j6⟩, _⟩ := XF
        refine bodyPost_ret (v := (atomV d).val) (by simp [RV.val, atomV, RV.kind, RV.dep, RV.addr, RV.args, RV.cap, results, Tryz.results87, go_sem, j0, j1, j2, j3, j4, j5, j6]) rfl ?_
        rw [HRR.out]
        exact ⟨(store7_but (Nat.le_refl _) HB4 _ _ _ _ _ _ _).alloc _, atomV d, rfl, rfl, atomV_tq HM.out, A2, c2, (S4.past (store7_below (by omega) (Below.refl _ _) _ _ _ _ _ _ _)).then ((Below.refl _ _).alloc (Nat.le_refl _) _)⟩
    · have q3 : (op == 0) = false := by simpa using q2
      have hN : plainN (x :: ws) = 1 + 2 := by rw [HN.out, q3]; rfl
      have q5 : (op != 0) = true := by simp only [bne, q3, Bool.not_false]
      have HN1 := Lib.hid hN
      have hne : ws ≠ [] := by
        rintro rfl
        have h1 := HN1.out
        simp [plainN, isOp, atT, opOf] at h1
      clear hN HN HO q2
      go_wp2_with fail
      go_loopw [7, 38] (fun v i wr => ∃ j : Nat, j ≤ 2 ∧ i = .int .i64 (j : Int) ∧ Gathered w0 R e o (x :: ws) n j W v wr) (fun _ i _ => 2 - (intOf i).toNat)
      case atStart => exact ⟨0, by omega, rfl, G2.out⟩
      case round =>
        obtain ⟨j, hj, rfl, hG⟩ := hrel
        rename World => wr
        by_cases hlt : j < 2
        · have i1 : (j : Int) < 2 := by omega
          have i2 : (j : Int) ≤ 2 := by omega
          obtain ⟨A3, c3, S3⟩ := hG.st
          have hLL := txt_len (x :: ws) (1 + j)
          obtain ⟨Av, cv, rfl, hTv⟩ := TR.of_own hG.own
          have HG := Lib.hid hG
          cases hdr : (x :: ws).drop (1 + j) with
          | nil =>
            rw [hdr] at S3
            have HD := Lib.hid hdr
            clear hG hTv hdr hLL
            generalize (List.map bs (txt (List.take (1 + j) (x :: ws)))).length = nn at *
            go_wp2_with fail
            go_at_call 131
            refine (rtake_nil _ S3).mono ?_
            rintro en w5 ⟨rfl, hB5, S5⟩
            go_wp2_with fail
            go_roundw
            case rel => exact ⟨j + 1, by omega, by go_num, HG.out.same HD.out hB5 ⟨_, _, S5⟩ hR⟩
            case measure => simp [intOf]; omega
          | cons y r =>
            rw [hdr] at S3
            have HD := Lib.hid hdr
            have hnn : (List.map bs (txt (List.take (1 + j) (x :: ws)))).length ≤ 3 := by rw [List.length_map]; omega
            have HNN := Lib.hid hnn
            clear hG hTv hdr hLL hnn
            obtain ⟨LL, hLL⟩ : ∃ LL, LL = List.map bs (txt (List.take (1 + j) (x :: ws))) := ⟨_, rfl⟩
            rw [← hLL] at HNN HG ⊢
            have HLL := Lib.hid hLL
            have HO0 := Lib.hid (show Own encStr 1 (W.heap.size + 1) 9 (.slice Av LL.length cv) LL wr by have := HG.out.own; rw [← hLL] at this; exact this)
            clear hLL
            go_wp2_with fail
            go_at_call 131
            refine (rtake_cons _ S3).mono ?_
            rintro en w5 ⟨rfl, hB5, A5, c5, S5⟩
            have O5 : w5.ownsRow (W.heap.size + 1) 9 1 (.slice Av LL.length cv) LL.length (LL.flatMap encStr) := HO0.out.butR hB5 (by omega)
            have hw5 : W.heap.size + 1 ≤ w5.heap.size := Nat.lt_of_lt_of_le (HG.out.box).2.2 hB5.size
            go_wp2_with (at_builtin; refine wpList_append_own_at _ rfl _ _ 36 rfl (W.heap.size + 1) 9 _ (.string { data := #[] }) 1 16 (by rfl) (by rfl) (by rfl) (by rfl) (by rfl) rfl (by decide) _ _ _ rfl (World.ownsRow.alloc O5 _) ⟨_, 0, none⟩ 1 1 [.string (bs y.2)] rfl rfl (cell_one_new _ _ _) (by simp [Value.oneCell']) (by have := HNN.out; simp only [maxLen]; omega) (by have := HNN.out; omega) (by simp; omega) ?_; intro v1 w6 ho1 hg1 _ hw1)
            go_roundw
            case rel => exact ⟨j + 1, by omega, by go_num, HG.out.more HD.out hB5 ⟨_, _, S5⟩ hR HLL.out ho1 hg1⟩
            case measure => simp [intOf]; omega
        · have i1 : ¬ (j : Int) < 2 := by omega
          obtain rfl : j = 2 := by omega
          have G2 := Lib.hid hG
          obtain ⟨Av, cv, rfl, hTv⟩ := TR.of_own hG.own
          clear hG hTv i1 hlt hj
          generalize (List.map bs (txt (List.take (1 + 2) (x :: ws)))).length = nn at *
          go_wp2_with fail
          go_at_call 133
          have G := G2.out
          obtain ⟨A2, c2, S2⟩ := G.st
          refine (dof_words G.own (Nat.le_trans (txt_len _ _) (by omega)) (txt_small HSM.out _) (RichIn.past HI.out (Nat.le_refl _) S2.old).1).mono ?_
          rintro en w4 ⟨rfl, hB4⟩
          have hr : plainP e (x :: ws) n = match dpOf (txt ((x :: ws).take (1 + 2))) with | none => .stop x.1 4 | some d => .ok (.mk 1 d []) ((x :: ws).drop (1 + 2)) (n + 1) := by unfold plainP; rw [HN1.out]; rfl
          have HB4 := G.but.then hB4
          have X4 := G.box.past (hB4.mono (by have := G.box.2.2; omega))
          have S4 := S2.then hB4
          generalize hdp : dpOf (txt ((x :: ws).take (1 + 2))) = dd at *
          cases dd with
          | none =>
            rw [ofV_none]
            unfold ZV
            have HRR := Lib.hid hr
            rw [← HX1.out] at HRR
            clear hr hdp G S2 hB4 S4 X4
            go_wp2_with fail
            exact ⟨rfl, PartPost.stop HRR.out (HB4.alloc _)⟩
          | some d =>
            have hm := (words_dpOf hdp).1
            have HM := Lib.hid (dmay_wf hm)
            have HRR := Lib.hid hr
            have XX := Lib.hid X4
            obtain ⟨⟨h0, h1, h2, h3, h4, h5, h6⟩, ⟨k0, k1, k2, k3, k4, k5, k6⟩, hl⟩ := X4
            unfold ofV
            dsimp only
            unfold Dp.val
            clear hr hdp G S2 hB4 hm
            go_wp2_with fail
            have XF := (XX.out.store (.int .u8 1) (.string (bs d.name)) (.int .u8 d.op) (.int .i64 d.evr.epoch) (.string (bs d.evr.ver)) (.string (bs d.evr.rel)) (.slice none 0 0)).past ((Below.refl _ _).alloc (by rw [store7_size]; exact hl) (.cells #[.string (bs d.name), .int .u8 d.op, .int .i64 d.evr.epoch, .string (bs d.evr.ver), .string (bs d.evr.rel)] 26))
            unfold store7 at XF
            obtain ⟨⟨j0, j1, j2, j3, j4, j5, j6⟩, _⟩ := XF
            refine bodyPost_ret (v := (atomV d).val) (by simp [RV.val, atomV, RV.kind, RV.dep, RV.addr, RV.args, RV.cap, results, Tryz.results87, go_sem, j0, j1, j2, j3, j4, j5, j6]) rfl ?_
            rw [HRR.out]
            exact ⟨(store7_but (Nat.le_refl _) HB4 _ _ _ _ _ _ _).alloc _, atomV d, rfl, rfl, atomV_tq HM.out, A2, c2, (S4.past (store7_below (by omega) (Below.refl _ _) _ _ _ _ _ _ _)).then ((Below.refl _ _).alloc (Nat.le_refl _) _)⟩
  · have q3 : is = false := by simpa using q1
    subst q3
    have hN : plainN (x :: ws) = 1 + 0 := by rw [HN.out]; rfl
    have HN1 := Lib.hid hN
    clear hN HN HO q1
    go_wp2_with fail
    go_at_call 133
    have G := G2.out
    obtain ⟨A2, c2, S2⟩ := G.st
    refine (dof_words G.own (Nat.le_trans (txt_len _ _) (by omega)) (txt_small HSM.out _) (RichIn.past HI.out (Nat.le_refl _) S2.old).1).mono ?_
    rintro en w4 ⟨rfl, hB4⟩
    have hr : plainP e (x :: ws) n = match dpOf (txt ((x :: ws).take (1 + 0))) with | none => .stop x.1 4 | some d => .ok (.mk 1 d []) ((x :: ws).drop (1 + 0)) (n + 1) := by unfold plainP; rw [HN1.out]; rfl
    have HB4 := G.but.then hB4
    have X4 := G.box.past (hB4.mono (by have := G.box.2.2; omega))
    have S4 := S2.then hB4
    generalize hdp : dpOf (txt ((x :: ws).take (1 + 0))) = dd at *
    cases dd with
    | none =>
      rw [ofV_none]
      unfold ZV
      have HRR := Lib.hid hr
      rw [← HX1.out] at HRR
      clear hr hdp G S2 hB4 S4 X4
      go_wp2_with fail
      exact ⟨rfl, PartPost.stop HRR.out (HB4.alloc _)⟩
    | some d =>
      have hm := (words_dpOf hdp).1
      have HM := Lib.hid (dmay_wf hm)
      have HRR := Lib.hid hr
      have XX := Lib.hid X4
      obtain ⟨⟨h0, h1, h2, h3, h4, h5, h6⟩, ⟨k0, k1, k2, k3, k4, k5, k6⟩, hl⟩ := X4
      unfold ofV
      dsimp only
      unfold Dp.val
      clear hr hdp G S2 hB4 hm
      go_wp2_with fail
      have XF := (XX.out.store (.int .u8 1) (.string (bs d.name)) (.int .u8 d.op) (.int .i64 d.evr.epoch) (.string (bs d.evr.ver)) (.string (bs d.evr.rel)) (.slice none 0 0)).past ((Below.refl _ _).alloc (by rw [store7_size]; exact hl) (.cells #[.string (bs d.name), .int .u8 d.op, .int .i64 d.evr.epoch, .string (bs d.evr.ver), .string (bs d.evr.rel)] 26))
      unfold store7 at XF
      obtain ⟨⟨j0, j1, j2, j3, j4, j5, j6⟩, _⟩ := XF
      refine bodyPost_ret (v := (atomV d).val) (by simp [RV.val, atomV, RV.kind, RV.dep, RV.addr, RV.args, RV.cap, results, Tryz.results87, go_sem, j0, j1, j2, j3, j4, j5, j6]) rfl ?_
      rw [HRR.out]
      exact ⟨(store7_but (Nat.le_refl _) HB4 _ _ _ _ _ _ _).alloc _, atomV d, rfl, rfl, atomV_tq HM.out, A2, c2, (S4.past (store7_below (by omega) (Below.refl _ _) _ _ _ _ _ _ _)).then ((Below.refl _ _).alloc (Nat.le_refl _) _)⟩
end Go.Proofs.YtnfagaccbkeikaaGreatDoor
