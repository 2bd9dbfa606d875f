/- RichBack: Parse of Show is the same; of any text that is read Show is its words, put together, or too long. -/
import Derived.Test.YtlfnihnegheaaaaDoorRichBx
import Derived.Test.YtlfnihnegheaaaaDoorRlJoin
namespace Go.Proofs.YtlfnihnegheaaaaDoor
open Go.RowKit Go.Shelf
set_option linter.unusedVariables false

set_option maxRecDepth 100000 in
set_option maxHeartbeats 16000000 in
theorem richBack_row (w : World) (hI : RichIn w) (r : RV) (hr : RTree w.heap.size w r) (s : ByteArray) (hs : s.size ≤ maxLen) : Calls Tryd.prog 4 #[r.val, .string s] w fun e w' => e = .returned (.bool true) ∧ Below w.heap.size w w' := by
  have HI := Lib.hid (fun W (h : Below w.heap.size w W) => hI.below h)
  have SR := Lib.hid (BX.new hr)
  have OB := Lib.hid ((Below.refl w.heap.size w).alloc (Nat.le_refl _) (.cells #[.int .u8 r.kind, .string (bs r.dep.name), .int .u8 r.dep.op, .int .i64 r.dep.evr.epoch, .string (bs r.dep.evr.ver), .string (bs r.dep.evr.rel), .slice r.addr r.args.length r.cap] 29))
  have LA := Lib.hid (fun W (h : BX r w.heap.size W) => rlarge_any r W h.tree)
  have SA := Lib.hid (fun W (h : BX r w.heap.size W) (o : Below w.heap.size w W) (hp : r.tree.parts ≤ 2000) => rshow_any r W (by omega) h.tree (hI.below o))
  have WA := Lib.hid (fun W (h : BX r w.heap.size W) (o : Below w.heap.size w W) (hp : r.tree.parts ≤ 2000) => rwhole_any r W (by omega) h.tree (hI.below o))
  have AW := Lib.hid (fun W (o : Below w.heap.size w W) => rawake W (hI.below o))
  have PA := Lib.hid (fun W (o : Below w.heap.size w W) => rparse_any s W hs (hI.below o))
  have PR := Lib.hid (fun W (o : Below w.heap.size w W) (h : (showR r.tree).1.length ≤ 4096) => rparse_any (bs (showR r.tree).1) W (by rw [bs_size]; unfold maxLen; omega) (hI.below o))
  have SM := Lib.hid (fun (x : RV) W (hx : RTree W.heap.size W x) (h : BX r w.heap.size W) => rsame_any x.ht x r W (Nat.le_refl _) hx h.tree)
  have S3 := Lib.hid (show_three r.tree)
  unfold ParsePost at PA PR
  rw [bs_toList] at PR
  unfold RV.val at LA SA WA PA PR SM ⊢
  clear hI hr
  go_enter Tryd.func4, Tryd.ntmps4
  go_wp2_with fail
  go_at_call 14
  refine (LA.out _ SR.out).mono ?_
  rintro e w1 ⟨r1, rfl, hp1, h⟩
  have P1 := Lib.hid hp1
  have SR := Lib.hid (SR.out.then h)
  have OB := Lib.hid (OB.out.trans (h.mono OB.out.size))
  clear h hp1
  cases r1
  rotate_left
  · as_aux_lemma =>
      go_wp2_with fail
      go_at_call 13
      refine (AW.out _ OB.out).mono ?_
      rintro e w2 ⟨rfl, h⟩
      have OB := Lib.hid (OB.out.trans (h.mono OB.out.size))
      clear h
      go_wp2_with fail
      go_ret
      exact ⟨rfl, OB.out⟩
  by_cases hl : 10000 < s.size
  · as_aux_lemma =>
      have hl' : (10000 : Int) < (s.size : Int) := by omega
      clear hs hl
      go_wp2_with fail
      go_at_call 13
      refine (AW.out _ OB.out).mono ?_
      rintro e w2 ⟨rfl, h⟩
      have OB := Lib.hid (OB.out.trans (h.mono OB.out.size))
      clear h
      go_wp2_with fail
      go_ret
      exact ⟨rfl, OB.out⟩
  have hl' : ¬ (10000 : Int) < (s.size : Int) := by omega
  have hl'' : decide ((10000 : Int) < (s.size : Int)) = false := decide_eq_false hl'
  have HS := Lib.hid hs
  clear hl hs
  go_wp2_with fail
  go_at_call 13
  refine (AW.out _ OB.out).mono ?_
  rintro e w3 ⟨rfl, h⟩
  have SR := Lib.hid (SR.out.then h)
  have OB := Lib.hid (OB.out.trans (h.mono OB.out.size))
  clear h
  obtain ⟨⟨x0, x1, x2, x3, x4, x5, x6⟩, _, xl⟩ := id SR.out.box
  go_wp2_with fail
  clear hl' hl''
  go_at_call 9
  refine (SA.out _ SR.out OB.out (P1.out (by trivial))).mono ?_
  rintro e w4 ⟨rfl, h⟩
  have SR := Lib.hid (SR.out.then h)
  have OB := Lib.hid (OB.out.trans (h.mono OB.out.size))
  clear h x0 x1 x2 x3 x4 x5 x6 xl
  have WA := Lib.hid (fun W (h : BX r w.heap.size W) (o : Below w.heap.size w W) => WA.out W h o (P1.out (by trivial)))
  clear P1 LA SA
  obtain ⟨⟨x0, x1, x2, x3, x4, x5, x6⟩, _, xl⟩ := id SR.out.box
  rcases S3.out with ⟨h1, h2, h3, h4⟩ | ⟨h1, h2, h3⟩ | ⟨h1, h2, h3⟩
  · rw [h1]
    rw [h2] at WA
    rw [h3] at PR
    have PR := Lib.hid (fun W (o : Below w.heap.size w W) => PR.out W o h4)
    dsimp only at PR
    clear S3 h1 h2 h3 h4
    generalize (showR r.tree).1 = s1 at *
    go_wp2_with fail
    go_at_call 12
    refine (WA.out _ SR.out OB.out).mono ?_
    rintro e w5 ⟨rfl, h⟩
    have SR := Lib.hid (SR.out.then h)
    have OB := Lib.hid (OB.out.trans (h.mono OB.out.size))
    clear h x0 x1 x2 x3 x4 x5 x6 xl
    go_wp2_with fail
    go_at_call 8
    refine (PR.out _ OB.out).mono ?_
    rintro en w6 ⟨rv, hrt, rfl, hT, h⟩
    have SR := Lib.hid (SR.out.then h)
    have OB := Lib.hid (OB.out.trans (h.mono OB.out.size))
    have HT := Lib.hid (BX.new hT)
    have HRT := Lib.hid (show rv.tree = r.tree from hrt)
    clear hrt hT h
    have SR := Lib.hid (SR.out.alloc (.cells #[.int .u8 rv.kind, .string (bs rv.dep.name), .int .u8 rv.dep.op, .int .i64 rv.dep.evr.epoch, .string (bs rv.dep.evr.ver), .string (bs rv.dep.evr.rel), .slice rv.addr rv.args.length rv.cap] 29))
    have OB := Lib.hid (OB.out.alloc OB.out.size (.cells #[.int .u8 rv.kind, .string (bs rv.dep.name), .int .u8 rv.dep.op, .int .i64 rv.dep.evr.epoch, .string (bs rv.dep.evr.ver), .string (bs rv.dep.evr.rel), .slice rv.addr rv.args.length rv.cap] 29))
    obtain ⟨⟨x0, x1, x2, x3, x4, x5, x6⟩, _, xl⟩ := id SR.out.box
    obtain ⟨⟨y0, y1, y2, y3, y4, y5, y6⟩, _, yl⟩ := id HT.out.box
    go_wp2_with fail
    go_at_call 15
    refine (SM.out rv _ HT.out.tree SR.out).mono ?_
    rintro e w7 ⟨rfl, h⟩
    have OB := Lib.hid (OB.out.trans (h.mono OB.out.size))
    rw [HRT.out, sameT_self]
    clear h x0 x1 x2 x3 x4 x5 x6 xl y0 y1 y2 y3 y4 y5 y6 yl HT HRT SR SM PR WA
    -- TAIL
    go_wp2_with fail
    as_aux_lemma =>
      go_at_call 8
      cases hp : (parseL s.toList).1 with
      | none =>
        have hne := parseL_no hp
        obtain ⟨r0, p, n, hpl⟩ : ∃ r0 p n, parseL s.toList = (r0, p, n) := ⟨_, _, _, rfl⟩
        rw [hpl] at PA hne hp
        dsimp only at PA hne hp
        rw [hp] at PA
        have hn1 : (n == 0) = false := by simpa using hne
        have hn2 : (n != 0) = true := by simpa using hne
        clear hne hp hpl
        refine (PA.out _ OB.out).mono ?_
        rintro en w6 ⟨rv, hrt, rfl, hT, h⟩
        have OB := Lib.hid (OB.out.trans (h.mono OB.out.size))
        have HT := Lib.hid (BX.new hT)
        have HRT := Lib.hid (show rv.tree = zeroRT from hrt)
        clear hrt hT h
        have SM := Lib.hid (fun W (hx : RTree W.heap.size W rv) => rsame_any rv.ht rv zRV W (Nat.le_refl _) hx (zRV_rtree _ _))
        unfold RV.val at SM
        have OB := Lib.hid (OB.out.alloc OB.out.size (.cells #[.int .u8 rv.kind, .string (bs rv.dep.name), .int .u8 rv.dep.op, .int .i64 rv.dep.evr.epoch, .string (bs rv.dep.evr.ver), .string (bs rv.dep.evr.rel), .slice rv.addr rv.args.length rv.cap] 29))
        go_wp2_with fail
        go_at_call 15
        refine (SM.out _ HT.out.tree).mono ?_
        rintro e w7 ⟨rfl, h⟩
        have OB := Lib.hid (OB.out.trans (h.mono OB.out.size))
        rw [HRT.out, zRV_tree, sameT_self]
        clear h HT HRT SM
        go_wp2_with fail
        go_ret
        exact ⟨rfl, OB.out⟩
      | some t =>
        have hpl := parseL_some hp
        obtain ⟨l, hwl, hln, htx, hwh, hpt, hwg, hsh⟩ := show_read hp
        rw [hpl] at PA
        dsimp only at PA
        have WL := Lib.hid (fun W => words_is s W HS.out l 0 0 hwl)
        have HTX := Lib.hid htx
        have HPT := Lib.hid hpt
        have HWG := Lib.hid hwg
        have HSH := Lib.hid hsh
        clear hp hpl hwl htx hwh hpt hwg hsh
        refine (PA.out _ OB.out).mono ?_
        rintro en w6 ⟨rv, hrt, rfl, hT, h⟩
        have OB := Lib.hid (OB.out.trans (h.mono OB.out.size))
        have HT := Lib.hid (BX.new hT)
        have HRT := Lib.hid (show rv.tree = t from hrt)
        clear hrt hT h
        have OB := Lib.hid (OB.out.alloc OB.out.size (.cells #[.int .u8 rv.kind, .string (bs rv.dep.name), .int .u8 rv.dep.op, .int .i64 rv.dep.evr.epoch, .string (bs rv.dep.evr.ver), .string (bs rv.dep.evr.rel), .slice rv.addr rv.args.length rv.cap] 29))
        have SHX := Lib.hid (fun W (h : BX rv w6.heap.size W) (o : Below w.heap.size w W) => rshow_any rv W (by rw [HRT.out]; have := HPT.out; omega) h.tree (HI.out W o))
        rw [HRT.out] at SHX
        unfold RV.val at SHX
        go_wp2_with fail
        go_at_call 16
        refine (WL.out _).mono ?_
        rintro e w7 ⟨C, cc, rfl, hC, h⟩
        have HT := Lib.hid (HT.out.then h)
        have OB := Lib.hid (OB.out.trans (h.mono OB.out.size))
        have HC := Lib.hid hC
        clear h hC
        go_wp2_with fail
        go_loopw [16, 17] (fun v i wr => ∃ k : Nat, k ≤ l.length ∧ i = .int .i64 (k : Int) ∧ Own encStr 1 w7.heap.size 9 v (btexts (l.take k)) wr ∧ Below w7.heap.size w7 wr) (fun _ i _ => l.length - (intOf i).toNat)
        case atStart => exact ⟨0, Nat.zero_le _, rfl, Own.nil_ _ _ _, Below.refl _ _⟩
        case round =>
          obtain ⟨k, hk, rfl, hown, hB⟩ := hrel
          rename World => wr
          have HBR := Lib.hid hB
          have hBs := hB.size
          by_cases hlt : k < l.length
          · obtain ⟨a1, o1, rfl, hl1, c1, c2⟩ := (HC.out.below hB).at2 (f := fun x => .string (bs x.2)) (g := fun x => .int .i64 (x.1 : Int)) (fun _ => rfl) hlt
            have htn := Lib.hid (btexts_snoc l k hlt)
            have htl : (btexts (l.take k)).length ≤ 4096 := by simp [btexts]; omega
            have HO := Lib.hid hown
            clear hB
            go_wp2_with (at_builtin; refine wpList_append_own _ rfl _ _ 22 rfl w7.heap.size 9 _ (.string { data := #[] }) 1 16 (by rfl) (by rfl) (by rfl) (by rfl) (by rfl) rfl (by decide) _ _ _ rfl (World.ownsRow.alloc hown _) ⟨wr.heap.size, 0, none⟩ 1 1 [.string (bs l[k].2)] rfl rfl (cell_one_new _ _ _) (by simp [Value.oneCell']) (by simp only [maxLen]; omega) (by omega) (by simp; omega) ?_; intro v' w4 hown' hgrow _)
            go_roundw
            case rel =>
              exact ⟨k + 1, by omega, by go_num, by rw [htn.out]; exact Own.snoc hown',
                (HBR.out.alloc (by omega) _).grown hgrow (by simp; omega) (fun q e => (World.ownsRow.lt HO.out q e).1)⟩
            case measure => simp [intOf]; omega
          · obtain rfl : k = l.length := by omega
            rw [List.take_length] at hown
            obtain ⟨A, ca, rfl, hA⟩ := hown.rd (fun _ => rfl)
            have JN := Lib.hid (fun W hh => join_any (btexts l) A ca ca W hh (by rw [btexts_txt, HTX.out]; have := HWG.out; omega))
            rw [btexts_txt, HTX.out] at JN
            have HA := Lib.hid hA
            have HT := Lib.hid (HT.out.then hB)
            have OB := Lib.hid (OB.out.trans (hB.mono OB.out.size))
            clear hown hA hB hlt
            obtain ⟨⟨y0, y1, y2, y3, y4, y5, y6⟩, _, yl⟩ := id HT.out.box
            go_wp2_with fail
            go_at_call 9
            refine (SHX.out _ HT.out OB.out).mono ?_
            rintro e w8 ⟨rfl, h⟩
            have OB := Lib.hid (OB.out.trans (h.mono OB.out.size))
            have HA := Lib.hid (HA.out.withB h)
            clear h y0 y1 y2 y3 y4 y5 y6 yl
            rcases HSH.out with ⟨g1, g2⟩ | ⟨g1, g2⟩
            · rw [g1, g2]
              clear HSH g1 g2 SHX
              go_wp2_with fail
              go_at_call 17
              refine (JN.out _ HA.out).mono ?_
              rintro e w9 ⟨rfl, h⟩
              have OB := Lib.hid (OB.out.trans (h.mono OB.out.size))
              clear h JN HA HT
              go_wp2_with fail
              go_ret
              exact ⟨by simp, OB.out⟩
            · rw [g1]
              have g3 : (4096 : Int) < ((bs (joinS none t.words)).size : Int) := by rw [bs_size]; omega
              clear HSH g1 g2 SHX
              generalize (showR t).1 = s9 at *
              go_wp2_with fail
              go_at_call 17
              refine (JN.out _ HA.out).mono ?_
              rintro e w9 ⟨rfl, h⟩
              have OB := Lib.hid (OB.out.trans (h.mono OB.out.size))
              clear h JN HA HT
              go_wp2_with fail
              go_ret
              exact ⟨by simp, OB.out⟩
  · rw [h1, h3, show bs [] = (⟨#[]⟩ : ByteArray) from rfl]
    rw [h2] at WA
    clear S3 h1 h2 h3 PR SM
    go_wp2_with fail
    go_at_call 12
    refine (WA.out _ SR.out OB.out).mono ?_
    rintro e w5 ⟨rfl, h⟩
    have OB := Lib.hid (OB.out.trans (h.mono OB.out.size))
    clear h x0 x1 x2 x3 x4 x5 x6 xl SR WA
    go_wp2_with fail
    as_aux_lemma =>
      go_at_call 8
      cases hp : (parseL s.toList).1 with
      | none =>
        have hne := parseL_no hp
        obtain ⟨r0, p, n, hpl⟩ : ∃ r0 p n, parseL s.toList = (r0, p, n) := ⟨_, _, _, rfl⟩
        rw [hpl] at PA hne hp
        dsimp only at PA hne hp
        rw [hp] at PA
        have hn1 : (n == 0) = false := by simpa using hne
        have hn2 : (n != 0) = true := by simpa using hne
        clear hne hp hpl
        refine (PA.out _ OB.out).mono ?_
        rintro en w6 ⟨rv, hrt, rfl, hT, h⟩
        have OB := Lib.hid (OB.out.trans (h.mono OB.out.size))
        have HT := Lib.hid (BX.new hT)
        have HRT := Lib.hid (show rv.tree = zeroRT from hrt)
        clear hrt hT h
        have SM := Lib.hid (fun W (hx : RTree W.heap.size W rv) => rsame_any rv.ht rv zRV W (Nat.le_refl _) hx (zRV_rtree _ _))
        unfold RV.val at SM
        have OB := Lib.hid (OB.out.alloc OB.out.size (.cells #[.int .u8 rv.kind, .string (bs rv.dep.name), .int .u8 rv.dep.op, .int .i64 rv.dep.evr.epoch, .string (bs rv.dep.evr.ver), .string (bs rv.dep.evr.rel), .slice rv.addr rv.args.length rv.cap] 29))
        go_wp2_with fail
        go_at_call 15
        refine (SM.out _ HT.out.tree).mono ?_
        rintro e w7 ⟨rfl, h⟩
        have OB := Lib.hid (OB.out.trans (h.mono OB.out.size))
        rw [HRT.out, zRV_tree, sameT_self]
        clear h HT HRT SM
        go_wp2_with fail
        go_ret
        exact ⟨rfl, OB.out⟩
      | some t =>
        have hpl := parseL_some hp
        obtain ⟨l, hwl, hln, htx, hwh, hpt, hwg, hsh⟩ := show_read hp
        rw [hpl] at PA
        dsimp only at PA
        have WL := Lib.hid (fun W => words_is s W HS.out l 0 0 hwl)
        have HTX := Lib.hid htx
        have HPT := Lib.hid hpt
        have HWG := Lib.hid hwg
        have HSH := Lib.hid hsh
        clear hp hpl hwl htx hwh hpt hwg hsh
        refine (PA.out _ OB.out).mono ?_
        rintro en w6 ⟨rv, hrt, rfl, hT, h⟩
        have OB := Lib.hid (OB.out.trans (h.mono OB.out.size))
        have HT := Lib.hid (BX.new hT)
        have HRT := Lib.hid (show rv.tree = t from hrt)
        clear hrt hT h
        have OB := Lib.hid (OB.out.alloc OB.out.size (.cells #[.int .u8 rv.kind, .string (bs rv.dep.name), .int .u8 rv.dep.op, .int .i64 rv.dep.evr.epoch, .string (bs rv.dep.evr.ver), .string (bs rv.dep.evr.rel), .slice rv.addr rv.args.length rv.cap] 29))
        have SHX := Lib.hid (fun W (h : BX rv w6.heap.size W) (o : Below w.heap.size w W) => rshow_any rv W (by rw [HRT.out]; have := HPT.out; omega) h.tree (HI.out W o))
        rw [HRT.out] at SHX
        unfold RV.val at SHX
        go_wp2_with fail
        go_at_call 16
        refine (WL.out _).mono ?_
        rintro e w7 ⟨C, cc, rfl, hC, h⟩
        have HT := Lib.hid (HT.out.then h)
        have OB := Lib.hid (OB.out.trans (h.mono OB.out.size))
        have HC := Lib.hid hC
        clear h hC
        go_wp2_with fail
        go_loopw [16, 17] (fun v i wr => ∃ k : Nat, k ≤ l.length ∧ i = .int .i64 (k : Int) ∧ Own encStr 1 w7.heap.size 9 v (btexts (l.take k)) wr ∧ Below w7.heap.size w7 wr) (fun _ i _ => l.length - (intOf i).toNat)
        case atStart => exact ⟨0, Nat.zero_le _, rfl, Own.nil_ _ _ _, Below.refl _ _⟩
        case round =>
          obtain ⟨k, hk, rfl, hown, hB⟩ := hrel
          rename World => wr
          have HBR := Lib.hid hB
          have hBs := hB.size
          by_cases hlt : k < l.length
          · obtain ⟨a1, o1, rfl, hl1, c1, c2⟩ := (HC.out.below hB).at2 (f := fun x => .string (bs x.2)) (g := fun x => .int .i64 (x.1 : Int)) (fun _ => rfl) hlt
            have htn := Lib.hid (btexts_snoc l k hlt)
            have htl : (btexts (l.take k)).length ≤ 4096 := by simp [btexts]; omega
            have HO := Lib.hid hown
            clear hB
            go_wp2_with (at_builtin; refine wpList_append_own _ rfl _ _ 22 rfl w7.heap.size 9 _ (.string { data := #[] }) 1 16 (by rfl) (by rfl) (by rfl) (by rfl) (by rfl) rfl (by decide) _ _ _ rfl (World.ownsRow.alloc hown _) ⟨wr.heap.size, 0, none⟩ 1 1 [.string (bs l[k].2)] rfl rfl (cell_one_new _ _ _) (by simp [Value.oneCell']) (by simp only [maxLen]; omega) (by omega) (by simp; omega) ?_; intro v' w4 hown' hgrow _)
            go_roundw
            case rel =>
              exact ⟨k + 1, by omega, by go_num, by rw [htn.out]; exact Own.snoc hown',
                (HBR.out.alloc (by omega) _).grown hgrow (by simp; omega) (fun q e => (World.ownsRow.lt HO.out q e).1)⟩
            case measure => simp [intOf]; omega
          · obtain rfl : k = l.length := by omega
            rw [List.take_length] at hown
            obtain ⟨A, ca, rfl, hA⟩ := hown.rd (fun _ => rfl)
            have JN := Lib.hid (fun W hh => join_any (btexts l) A ca ca W hh (by rw [btexts_txt, HTX.out]; have := HWG.out; omega))
            rw [btexts_txt, HTX.out] at JN
            have HA := Lib.hid hA
            have HT := Lib.hid (HT.out.then hB)
            have OB := Lib.hid (OB.out.trans (hB.mono OB.out.size))
            clear hown hA hB hlt
            obtain ⟨⟨y0, y1, y2, y3, y4, y5, y6⟩, _, yl⟩ := id HT.out.box
            go_wp2_with fail
            go_at_call 9
            refine (SHX.out _ HT.out OB.out).mono ?_
            rintro e w8 ⟨rfl, h⟩
            have OB := Lib.hid (OB.out.trans (h.mono OB.out.size))
            have HA := Lib.hid (HA.out.withB h)
            clear h y0 y1 y2 y3 y4 y5 y6 yl
            rcases HSH.out with ⟨g1, g2⟩ | ⟨g1, g2⟩
            · rw [g1, g2]
              clear HSH g1 g2 SHX
              go_wp2_with fail
              go_at_call 17
              refine (JN.out _ HA.out).mono ?_
              rintro e w9 ⟨rfl, h⟩
              have OB := Lib.hid (OB.out.trans (h.mono OB.out.size))
              clear h JN HA HT
              go_wp2_with fail
              go_ret
              exact ⟨by simp, OB.out⟩
            · rw [g1]
              have g3 : (4096 : Int) < ((bs (joinS none t.words)).size : Int) := by rw [bs_size]; omega
              clear HSH g1 g2 SHX
              generalize (showR t).1 = s9 at *
              go_wp2_with fail
              go_at_call 17
              refine (JN.out _ HA.out).mono ?_
              rintro e w9 ⟨rfl, h⟩
              have OB := Lib.hid (OB.out.trans (h.mono OB.out.size))
              clear h JN HA HT
              go_wp2_with fail
              go_ret
              exact ⟨by simp, OB.out⟩
  · rw [h1, h3, show bs [] = (⟨#[]⟩ : ByteArray) from rfl]
    rw [h2] at WA
    clear S3 h1 h2 h3 PR SM
    go_wp2_with fail
    go_at_call 12
    refine (WA.out _ SR.out OB.out).mono ?_
    rintro e w5 ⟨rfl, h⟩
    have OB := Lib.hid (OB.out.trans (h.mono OB.out.size))
    clear h x0 x1 x2 x3 x4 x5 x6 xl SR WA
    go_wp2_with fail
    as_aux_lemma =>
      go_at_call 8
      cases hp : (parseL s.toList).1 with
      | none =>
        have hne := parseL_no hp
        obtain ⟨r0, p, n, hpl⟩ : ∃ r0 p n, parseL s.toList = (r0, p, n) := ⟨_, _, _, rfl⟩
        rw [hpl] at PA hne hp
        dsimp only at PA hne hp
        rw [hp] at PA
        have hn1 : (n == 0) = false := by simpa using hne
        have hn2 : (n != 0) = true := by simpa using hne
        clear hne hp hpl
        refine (PA.out _ OB.out).mono ?_
        rintro en w6 ⟨rv, hrt, rfl, hT, h⟩
        have OB := Lib.hid (OB.out.trans (h.mono OB.out.size))
        have HT := Lib.hid (BX.new hT)
        have HRT := Lib.hid (show rv.tree = zeroRT from hrt)
        clear hrt hT h
        have SM := Lib.hid (fun W (hx : RTree W.heap.size W rv) => rsame_any rv.ht rv zRV W (Nat.le_refl _) hx (zRV_rtree _ _))
        unfold RV.val at SM
        have OB := Lib.hid (OB.out.alloc OB.out.size (.cells #[.int .u8 rv.kind, .string (bs rv.dep.name), .int .u8 rv.dep.op, .int .i64 rv.dep.evr.epoch, .string (bs rv.dep.evr.ver), .string (bs rv.dep.evr.rel), .slice rv.addr rv.args.length rv.cap] 29))
        go_wp2_with fail
        go_at_call 15
        refine (SM.out _ HT.out.tree).mono ?_
        rintro e w7 ⟨rfl, h⟩
        have OB := Lib.hid (OB.out.trans (h.mono OB.out.size))
        rw [HRT.out, zRV_tree, sameT_self]
        clear h HT HRT SM
        go_wp2_with fail
        go_ret
        exact ⟨rfl, OB.out⟩
      | some t =>
        have hpl := parseL_some hp
        obtain ⟨l, hwl, hln, htx, hwh, hpt, hwg, hsh⟩ := show_read hp
        rw [hpl] at PA
        dsimp only at PA
        have WL := Lib.hid (fun W => words_is s W HS.out l 0 0 hwl)
        have HTX := Lib.hid htx
        have HPT := Lib.hid hpt
        have HWG := Lib.hid hwg
        have HSH := Lib.hid hsh
        clear hp hpl hwl htx hwh hpt hwg hsh
        refine (PA.out _ OB.out).mono ?_
        rintro en w6 ⟨rv, hrt, rfl, hT, h⟩
        have OB := Lib.hid (OB.out.trans (h.mono OB.out.size))
        have HT := Lib.hid (BX.new hT)
        have HRT := Lib.hid (show rv.tree = t from hrt)
        clear hrt hT h
        have OB := Lib.hid (OB.out.alloc OB.out.size (.cells #[.int .u8 rv.kind, .string (bs rv.dep.name), .int .u8 rv.dep.op, .int .i64 rv.dep.evr.epoch, .string (bs rv.dep.evr.ver), .string (bs rv.dep.evr.rel), .slice rv.addr rv.args.length rv.cap] 29))
        have SHX := Lib.hid (fun W (h : BX rv w6.heap.size W) (o : Below w.heap.size w W) => rshow_any rv W (by rw [HRT.out]; have := HPT.out; omega) h.tree (HI.out W o))
        rw [HRT.out] at SHX
        unfold RV.val at SHX
        go_wp2_with fail
        go_at_call 16
        refine (WL.out _).mono ?_
        rintro e w7 ⟨C, cc, rfl, hC, h⟩
        have HT := Lib.hid (HT.out.then h)
        have OB := Lib.hid (OB.out.trans (h.mono OB.out.size))
        have HC := Lib.hid hC
        clear h hC
        go_wp2_with fail
        go_loopw [16, 17] (fun v i wr => ∃ k : Nat, k ≤ l.length ∧ i = .int .i64 (k : Int) ∧ Own encStr 1 w7.heap.size 9 v (btexts (l.take k)) wr ∧ Below w7.heap.size w7 wr) (fun _ i _ => l.length - (intOf i).toNat)
        case atStart => exact ⟨0, Nat.zero_le _, rfl, Own.nil_ _ _ _, Below.refl _ _⟩
        case round =>
          obtain ⟨k, hk, rfl, hown, hB⟩ := hrel
          rename World => wr
          have HBR := Lib.hid hB
          have hBs := hB.size
          by_cases hlt : k < l.length
          · obtain ⟨a1, o1, rfl, hl1, c1, c2⟩ := (HC.out.below hB).at2 (f := fun x => .string (bs x.2)) (g := fun x => .int .i64 (x.1 : Int)) (fun _ => rfl) hlt
            have htn := Lib.hid (btexts_snoc l k hlt)
            have htl : (btexts (l.take k)).length ≤ 4096 := by simp [btexts]; omega
            have HO := Lib.hid hown
            clear hB
            go_wp2_with (at_builtin; refine wpList_append_own _ rfl _ _ 22 rfl w7.heap.size 9 _ (.string { data := #[] }) 1 16 (by rfl) (by rfl) (by rfl) (by rfl) (by rfl) rfl (by decide) _ _ _ rfl (World.ownsRow.alloc hown _) ⟨wr.heap.size, 0, none⟩ 1 1 [.string (bs l[k].2)] rfl rfl (cell_one_new _ _ _) (by simp [Value.oneCell']) (by simp only [maxLen]; omega) (by omega) (by simp; omega) ?_; intro v' w4 hown' hgrow _)
            go_roundw
            case rel =>
              exact ⟨k + 1, by omega, by go_num, by rw [htn.out]; exact Own.snoc hown',
                (HBR.out.alloc (by omega) _).grown hgrow (by simp; omega) (fun q e => (World.ownsRow.lt HO.out q e).1)⟩
            case measure => simp [intOf]; omega
          · obtain rfl : k = l.length := by omega
            rw [List.take_length] at hown
            obtain ⟨A, ca, rfl, hA⟩ := hown.rd (fun _ => rfl)
            have JN := Lib.hid (fun W hh => join_any (btexts l) A ca ca W hh (by rw [btexts_txt, HTX.out]; have := HWG.out; omega))
            rw [btexts_txt, HTX.out] at JN
            have HA := Lib.hid hA
            have HT := Lib.hid (HT.out.then hB)
            have OB := Lib.hid (OB.out.trans (hB.mono OB.out.size))
            clear hown hA hB hlt
            obtain ⟨⟨y0, y1, y2, y3, y4, y5, y6⟩, _, yl⟩ := id HT.out.box
            go_wp2_with fail
            go_at_call 9
            refine (SHX.out _ HT.out OB.out).mono ?_
            rintro e w8 ⟨rfl, h⟩
            have OB := Lib.hid (OB.out.trans (h.mono OB.out.size))
            have HA := Lib.hid (HA.out.withB h)
            clear h y0 y1 y2 y3 y4 y5 y6 yl
            rcases HSH.out with ⟨g1, g2⟩ | ⟨g1, g2⟩
            · rw [g1, g2]
              clear HSH g1 g2 SHX
              go_wp2_with fail
              go_at_call 17
              refine (JN.out _ HA.out).mono ?_
              rintro e w9 ⟨rfl, h⟩
              have OB := Lib.hid (OB.out.trans (h.mono OB.out.size))
              clear h JN HA HT
              go_wp2_with fail
              go_ret
              exact ⟨by simp, OB.out⟩
            · rw [g1]
              have g3 : (4096 : Int) < ((bs (joinS none t.words)).size : Int) := by rw [bs_size]; omega
              clear HSH g1 g2 SHX
              generalize (showR t).1 = s9 at *
              go_wp2_with fail
              go_at_call 17
              refine (JN.out _ HA.out).mono ?_
              rintro e w9 ⟨rfl, h⟩
              have OB := Lib.hid (OB.out.trans (h.mono OB.out.size))
              clear h JN HA HT
              go_wp2_with fail
              go_ret
              exact ⟨by simp, OB.out⟩
end Go.Proofs.YtlfnihnegheaaaaDoor
