import Derived.Test.YteobmfpbgnmffaaGreatDoorTruthProvidersRowX1
set_option linter.unusedSimpArgs false
set_option linter.unusedVariables false
/- TrProvW -/
set_option linter.unusedSimpArgs false
set_option linter.unusedVariables false
open List (getElem?_toArray getElem?_cons_zero getElem?_cons_succ setIfInBounds_toArray set_cons_zero set_cons_succ take_succ_cons take_zero)
/- Walk: TruthProviders. -/








namespace Go.Proofs.YteobmfpbgnmffaaGreatDoor
open Go.RowKit Go.Shelf
set_option linter.unusedVariables false

def tp15 (b o an ac j : Nat) (q : Pk) (d : Dp) (pv : Bool) (i : Nat) (v : Value) (W : World) : Prop := match i with
  | 0 => v = .agg #[.string q.name, .int .i64 q.epoch, .string q.ver, .string q.rel, .int .u8 q.arch, .string q.vendor, .slice q.provA q.prov.length q.provC, .slice q.reqA q.req.length q.reqC, .slice q.conA q.con.length q.conC, .slice q.obsA q.obs.length q.obsC, .slice q.rcmA q.rcm.length q.rcmC, .slice q.supA q.sup.length q.supC, .slice q.sugA q.sug.length q.sugC, .slice q.enhA q.enh.length q.enhC, .slice q.filesA q.files.length q.filesC]
  | 1 => v = .slice (some ⟨b, o, none⟩) an ac
  | 2 => v = .int .i64 (j : Int)
  | 3 => v = .pointer (some ⟨b, o + j * 5, none⟩)
  | 4 => v = .agg #[.string (bs d.name), .int .u8 d.op, .int .i64 d.evr.epoch, .string (bs d.evr.ver), .string (bs d.evr.rel)]
  | 5 => v = .bool pv
  | _ => False
theorem tp15_mono (b o an ac j : Nat) (q : Pk) (d : Dp) (pv : Bool) : ∀ i v w w', tp15 b o an ac j q d pv i v w → Below w.heap.size w w' → tp15 b o an ac j q d pv i v w' := by
  intro i v w w' h hb
  match i, h with
  | 0, h => exact h
  | 1, h => exact h
  | 2, h => exact h
  | 3, h => exact h
  | 4, h => exact h
  | 5, h => exact h
  | (k + 6), h => exact h.elim
def tp17 (T m sc dn vc : Nat) (SA vA : Option Addr) (R : RV) (a : Bool) (i : Nat) (v : Value) (W : World) : Prop := match i with
  | 0 => v = .pointer (some ⟨T, 0, none⟩)
  | 1 => v = .slice SA m sc
  | 2 => v = .agg #[.int .u8 R.kind, .string (bs R.dep.name), .int .u8 R.dep.op, .int .i64 R.dep.evr.epoch, .string (bs R.dep.evr.ver), .string (bs R.dep.evr.rel), .slice R.addr R.args.length R.cap]
  | 3 => v = .bool a
  | 4 => v = .pointer (some ⟨T, 0, none⟩)
  | 5 => v = .slice vA dn vc
  | 6 => v = .agg #[.int .u8 R.kind, .string (bs R.dep.name), .int .u8 R.dep.op, .int .i64 R.dep.evr.epoch, .string (bs R.dep.evr.ver), .string (bs R.dep.evr.rel), .slice R.addr R.args.length R.cap]
  | 7 => v = .bool a
  | 8 => v = .bool true
  | 9 => v = .bool true
  | _ => False
theorem tp17_mono (T m sc dn vc : Nat) (SA vA : Option Addr) (R : RV) (a : Bool) : ∀ i v w w', tp17 T m sc dn vc SA vA R a i v w → Below w.heap.size w w' → tp17 T m sc dn vc SA vA R a i v w' := by
  intro i v w w' h hb
  match i, h with
  | 0, h => exact h
  | 1, h => exact h
  | 2, h => exact h
  | 3, h => exact h
  | 4, h => exact h
  | 5, h => exact h
  | 6, h => exact h
  | 7, h => exact h
  | 8, h => exact h
  | 9, h => exact h
  | (k + 10), h => exact h.elim
set_option maxRecDepth 100000 in
set_option maxHeartbeats 16000000 in
theorem truthProviders_row (w : World) (hI : WhIn w) (RA : Option Addr) (rc : Nat) (repos : List Rp) (hr : RpRow w.heap.size w RA rc repos) (hrq : ∀ r ∈ repos, ∀ p ∈ r.pk, PkQ w p) (IA : Option Addr) (ic : Nat) (ins : List Pk) (hi : PRow w.heap.size w IA ic ins) (hiq : ∀ p ∈ ins, PkQ w p) (SA : Option Addr) (sc : Nat) (S : List Int) (hS : Rd encI 1 w.heap.size SA sc S w ∧ (∀ z ∈ S, (Lit.int .i64 z).wf = true) ∧ S.length ≤ 1000000000000000) (R : RV) (hR : RTree w.heap.size w R ∧ KO R) : Calls Tryz.prog 8 #[.slice RA repos.length rc, .slice IA ins.length ic, .slice SA S.length sc, R.val] w fun e w' => e = .returned (.bool true) ∧ Below w.heap.size w w' := by
  obtain ⟨hS, hSw, hSl⟩ := hS
  obtain ⟨hR, hKO⟩ := hR
  have b1 := (Below.refl w.heap.size w).alloc (Nat.le_refl _) (.cells #[.int .u8 R.kind, .string (bs R.dep.name), .int .u8 R.dep.op, .int .i64 R.dep.evr.epoch, .string (bs R.dep.evr.ver), .string (bs R.dep.evr.rel), .slice R.addr R.args.length R.cap] 39)
  have RB := RBx.new R w
  have WD := Lib.hid (fun W (hb : Below w.heap.size w W) => wide14_any RA rc repos IA ic ins SA S.length sc R W (hr.calls hb) (hi.calls hb) ((hR.keeps hb).more hb.size))
  have AW := Lib.hid (fun W (hb : Below w.heap.size w W) => tawake_any W (hI.below hb))
  have MD := Lib.hid (fun (k : Int) (hn : Narrow repos ins k) W (hb : Below w.heap.size w W) => made14_any (w0 := w) (hI.1.below hb) (hr.calls hb) (hi.calls hb) hn hrq hiq)
  have TM0 := Lib.hid (fun W (hb : Below w.heap.size w W) => show WhIn W ∧ RTree W.heap.size W R ∧ Rd encI 1 W.heap.size SA sc S W from ⟨hI.below hb, (hR.keeps hb).more hb.size, (hS.below hb).more hb.size⟩)
  have MAY := Lib.hid (fun W (hb : Below w.heap.size w W) (hp : R.tree.parts ≤ 1000000) => shmay_any R 1 W (by omega) (hI.1.below hb) hKO hp ((hR.keeps hb).more hb.size))
  have ATS := Lib.hid (fun W (hb : Below w.heap.size w W) (hp : R.tree.parts ≤ 1000000) => shatoms_any R W hKO hp ((hR.keeps hb).more hb.size))
  have ATW := Lib.hid (atoms_wf hR)
  have MET := Lib.hid (mayE_tree 1 R)
  unfold RV.val at *
  obtain ⟨m, hm⟩ : ∃ m, S.length = m := ⟨_, rfl⟩
  rw [hm] at WD ⊢
  have HM := Lib.hid hm
  clear hI hr hrq hi hiq hS hSw hSl hR hKO hm
  have B1 := Lib.hid b1
  have RBV := Lib.hid RB
  clear b1 RB
  go_enter Tryz.func8, Tryz.ntmps8
  go_wp2_with fail
  obtain ⟨V, hV⟩ : ∃ V, V = w.alloc (.cells #[.int .u8 R.kind, .string (bs R.dep.name), .int .u8 R.dep.op, .int .i64 R.dep.evr.epoch, .string (bs R.dep.evr.ver), .string (bs R.dep.evr.rel), .slice R.addr R.args.length R.cap] 39) := ⟨_, rfl⟩
  rw [← hV] at B1 RBV ⊢
  clear hV
  go_at_call 36
  refine (WD.out V B1.out).mono ?_
  rintro en w1 ⟨r, rfl, hn, h⟩
  have B2 := Lib.hid (B1.out.trans (h.mono B1.out.size))
  have RB2 := Lib.hid (RBV.out.then h)
  have HNR := Lib.hid hn
  have AW1 := AW.out w1 B2.out
  clear h hn WD B1 RBV
  cases r
  rotate_left
  · go_wp2_with fail
    go_at_call 37
    refine AW1.mono ?_
    rintro en w9 ⟨rfl, h⟩
    have B9 := Lib.hid (B2.out.trans (h.mono B2.out.size))
    clear h
    go_wp2_with fail
    go_ret
    exact ⟨rfl, B9.out⟩
  have NW := Lib.hid (HNR.out rfl)
  clear HNR
  have hs200 : m ≤ 200 := by have := NW.out.1.nk; have := HM.out; omega
  go_wp2_with fail
  go_at_call 37
  refine AW1.mono ?_
  rintro en w2 ⟨rfl, h⟩
  have B3 := Lib.hid (B2.out.trans (h.mono B2.out.size))
  have RB3 := Lib.hid (RB2.out.then h)
  clear h B2 RB2 AW AW1
  go_wp2_with fail
  go_at_call 38
  refine (MD.out _ NW.out.1 w2 B3.out).mono ?_
  rintro en w3 ⟨hcase, h⟩
  have B6 := Lib.hid (B3.out.trans (h.mono B3.out.size))
  have RB6 := Lib.hid (RB3.out.then h)
  clear h MD B3 RB3
  rcases hcase with ⟨T, X, P, L, L2, rfl, ht, hpo, hal, hL⟩ | rfl
  rotate_left
  · go_wp2_with fail
    go_ret
    exact ⟨rfl, B6.out⟩
  have T6 := Lib.hid ht
  have P6 := Lib.hid hpo
  have NL := Lib.hid hL
  have AL := Lib.hid hal
  clear ht hpo hL hal
  have MY := Lib.hid (MAY.out w3 B6.out (by have := NW.out.2; omega))
  rw [MET.out] at MY
  obtain ⟨me, hme⟩ : ∃ me, mayT 1 R.tree = me := ⟨_, rfl⟩
  rw [hme] at MY
  have HME := Lib.hid hme
  clear hme MAY MET
  obtain ⟨_, c0, c1, c2, c3, c4, c5, c6⟩ := RB6.out
  go_wp2_with fail
  go_at_call 46
  refine MY.out.mono ?_
  rintro en w4 ⟨rfl, h⟩
  have B7 := Lib.hid (B6.out.trans (h.mono B6.out.size))
  have RB7 := Lib.hid (RB6.out.then h)
  have P7 := Lib.hid (P6.out.then h)
  have T7 := Lib.hid (T6.out.then h)
  clear h MY c0 c1 c2 c3 c4 c5 c6 RB6 T6 P6 B6
  by_cases hm0 : me = 0
  rotate_left
  · go_wp2_with fail
    go_ret
    exact ⟨rfl, B7.out⟩
  subst hm0
  have AT7 := Lib.hid (ATS.out w4 B7.out (by have := NW.out.2; omega))
  have AM := Lib.hid (atoms_may R.tree false (okF_of_may HME.out))
  have ALN := Lib.hid (atoms_len R.tree)
  have SSA := Lib.hid (fun (N : Nat) => some_sat (N := N) (L2 := L2) (S := S) HME.out)
  obtain ⟨aL, haL⟩ : ∃ l, atomsT R.tree = l := ⟨_, rfl⟩
  rw [haL] at AT7 AM ALN SSA ATW
  clear haL ATS HME
  obtain ⟨an, han⟩ : ∃ n, aL.length = n := ⟨_, rfl⟩
  rw [han] at AT7 ALN
  have HAN := Lib.hid han
  clear han
  have an1 : an ≤ 2000 := by have := ALN.out; have := NW.out.2; omega
  obtain ⟨_, c0, c1, c2, c3, c4, c5, c6⟩ := RB7.out
  go_wp2_with fail
  go_at_call 47
  refine AT7.out.mono ?_
  rintro en w5 ⟨AA, ac, rfl, hrd, h⟩
  have B8 := Lib.hid (B7.out.trans (h.mono B7.out.size))
  have RB8 := Lib.hid (RB7.out.then h)
  have P8 := Lib.hid (P7.out.then h)
  have T8 := Lib.hid (T7.out.then h)
  have RD := Lib.hid hrd
  clear h hrd AT7 c0 c1 c2 c3 c4 c5 c6 RB7 T7 P7 B7
  have PN8 := Lib.hid (fun (k : Int) W (hb : Below w5.heap.size w5 W) (hk : ¬ (0 ≤ k ∧ k < (L.length : Int))) => poolpkg_no (P8.out.then hb) hk (by have := NL.out; omega))
  have PY8 := Lib.hid (fun (k : Nat) W (hb : Below w5.heap.size w5 W) (hk : k < L.length) => poolpkg_own (P8.out.then hb) hk (by have := NL.out; omega))
  have PM8 := Lib.hid (fun (k : Nat) (hk : k < L.length) (q : Pk) (hq : Alike L[k].pk q) => show q.small ∧ q.evr.ok ∧ pvL L2 k = provB q from ⟨small_of_may (hq.may.trans (P8.out.may _ (List.getElem_mem hk)).1), evr_ok_of_may (hq.may.trans (P8.out.may _ (List.getElem_mem hk)).1), pvL_at AL.out hk hq⟩)
  have PL8 := Lib.hid (fun (k : Nat) (hk : k < L.length) (q : Pk) (hq : Alike L[k].pk q) (b : Nat) (W : World) (ho : PkOwn b q W) => show q.Laid W.heap.size W from ho.laid hq (P8.out.at_.laid _ (List.getElem_mem hk)))
  obtain ⟨N, hN⟩ : ∃ N, L.length = N := ⟨_, rfl⟩
  have HNL := Lib.hid hN
  rw [hN] at T8 NL PN8
  clear hN
  obtain ⟨i0, hi, hz0, hz1, hz2⟩ := info_parts infoIntX
  have SU := Lib.hid (fun k (hk : k < S.length) => someV_succ N L2 aL S hk)
  have SLN := Lib.hid (fun k => Nat.le_trans (someV_len N L2 aL (S.take k)) (show (S.take k).length ≤ k by rw [List.length_take]; omega))
  have SE := Lib.hid (show someV N L2 aL (S.take m) = someV N L2 aL S by rw [← HM.out, List.take_length])
  go_wp2_with fail
  go_loopw [13, 14] (fun v iv wr => ∃ k : Nat, k ≤ m ∧ iv = .int .i64 (k : Int) ∧ Own encI 1 w5.heap.size 3 v (someV N L2 aL (S.take k)) wr ∧ Below w5.heap.size w5 wr) (fun _ iv _ => m - (intOf iv).toNat)
  case atStart => exact ⟨0, Nat.zero_le _, rfl, Own.nil_ _ _ _, Below.refl _ _⟩
  case round =>
    obtain ⟨k, hk, rfl, how, hB⟩ := hrel
    rename World => wr
    obtain ⟨D, hD⟩ : ∃ D, D = someV N L2 aL (S.take k) := ⟨_, rfl⟩
    rw [← hD] at how
    obtain ⟨dn, hdn⟩ : ∃ n, n = D.length := ⟨_, rfl⟩
    have how2 := how
    unfold Own at how2
    rw [← hdn] at how2
    obtain ⟨vA, vc, rfl⟩ := own_shape how2
    clear how2
    have OW := Lib.hid how
    have HD := Lib.hid hD
    have HDN := Lib.hid hdn
    have HB := Lib.hid hB
    have BW := Lib.hid (B8.out.trans (hB.mono B8.out.size))
    have RBW := Lib.hid (RB8.out.then hB)
    clear how hD hdn
    by_cases hlt : k < m
    · have hkl : k < S.length := by have := HM.out; omega
      obtain ⟨sb, so, hA, hb, e0⟩ := (TM0.out wr BW.out).2.2.int_at hkl
      have WK := Lib.hid (SU.out k hkl)
      rw [← HD.out] at WK
      have WKL := Lib.hid (show dn ≤ k by rw [HDN.out, HD.out]; exact SLN.out k)
      subst hA
      generalize S[k] = z at *
      have i0' : (0 : Int) ≤ (k : Int) := by omega
      have i1 : (k : Int) < (m : Int) := by omega
      have E0 := Lib.hid e0
      clear hkl hB
      by_cases hz : 0 ≤ z ∧ z < (N : Int)
      rotate_left
      · have WK2 := Lib.hid (show someV N L2 aL (S.take (k + 1)) = D from by rw [WK.out, Tr.inN_out hz, if_neg Bool.false_ne_true, List.append_nil])
        have PNW := Lib.hid (PN8.out z wr HB.out hz)
        clear WK PY8 PM8 PL8
        go_wp2_with fail
        go_at_call 48
        refine PNW.out.mono ?_
        rintro en w6 ⟨rfl, h⟩
        have B6 := Lib.hid (HB.out.trans (h.mono HB.out.size))
        have O6 := Lib.hid (OW.out.below h (Nat.le_refl _))
        clear h PNW e0
        go_wp2_with fail
        go_loopw [13, 17] (fun v iv wr2 => v = .slice vA dn vc ∧ iv = .int .i64 0 ∧ Own encI 1 w5.heap.size 3 (.slice vA dn vc) D wr2 ∧ Below w5.heap.size w5 wr2) (fun _ iv _ => 0)
        case atStart => exact ⟨rfl, rfl, Own.alloc O6.out _, B6.out.alloc B6.out.size _⟩
        case round =>
          obtain ⟨rfl, rfl, hO, hBB⟩ := hrel
          have OO := Lib.hid hO
          have BB := Lib.hid hBB
          clear hO hBB
          go_wp2_with fail
          go_roundw
          case rel => exact ⟨k + 1, by omega, by go_num, by rw [WK2.out]; exact OO.out, BB.out⟩
          case measure => simp [intOf]; omega
      obtain ⟨n, rfl⟩ : ∃ n : Nat, z = (n : Int) := ⟨z.toNat, by omega⟩
      have hn : n < L.length := by have := HNL.out; omega
      have PYW := Lib.hid (PY8.out n wr HB.out hn)
      have PMW := Lib.hid (PM8.out n hn)
      have PLW := Lib.hid (PL8.out n hn)
      rw [Tr.inN_in hz, Int.toNat_natCast] at WK
      clear PN8 PY8 PM8 PL8
      go_wp2_with fail
      go_at_call 48
      refine PYW.out.mono ?_
      rintro en w6 ⟨q, rfl, hal, hown, h⟩
      obtain ⟨qs, qo, hpv⟩ := PMW.out q hal
      have QS := Lib.hid qs
      have QO := Lib.hid qo
      rw [hpv] at WK
      have LQ := Lib.hid (PLW.out q hal _ _ hown)
      have B56 := Lib.hid (HB.out.trans (h.mono HB.out.size))
      have O6 := Lib.hid (OW.out.below h (Nat.le_refl _))
      have E6 := Lib.hid ((h.cell (World.block_lt_of_cell? wr _ e0)).trans e0)
      unfold Pk.val
      have PN6 := PkAt.new w6 q
      clear h PYW PMW PLW hal hown qs qo hpv e0
      go_wp2_with fail
      obtain ⟨V, hV⟩ : ∃ V, V = w6.alloc (.cells #[.string q.name, .int .i64 q.epoch, .string q.ver, .string q.rel, .int .u8 q.arch, .string q.vendor, .slice q.provA q.prov.length q.provC, .slice q.reqA q.req.length q.reqC, .slice q.conA q.con.length q.conC, .slice q.obsA q.obs.length q.obsC, .slice q.rcmA q.rcm.length q.rcmC, .slice q.supA q.sup.length q.supC, .slice q.sugA q.sug.length q.sugC, .slice q.enhA q.enh.length q.enhC, .slice q.filesA q.files.length q.filesC] 28) := ⟨_, rfl⟩
      rw [← hV] at PN6 ⊢
      have b6V : Below w6.heap.size w6 V := by rw [hV]; exact (Below.refl _ _).alloc (Nat.le_refl _) _
      have PNV := Lib.hid PN6
      have B6V := Lib.hid b6V
      have OV := Lib.hid (O6.out.below b6V (Nat.le_refl _))
      clear hV PN6 b6V
      go_loopw [13, 17] (fun v iv wr2 => ∃ j : Nat, v = .slice vA dn vc ∧ j ≤ an ∧ iv = .int .i64 (j : Int) ∧ Hid (∀ i (hi : i < aL.length), i < j → provB q aL[i] = false) ∧ PkAt wr2 w6.heap.size q ∧ Own encI 1 w5.heap.size 3 (.slice vA dn vc) D wr2 ∧ Below w6.heap.size w6 wr2) (fun _ iv _ => an - (intOf iv).toNat)
      case atStart => exact ⟨0, rfl, by omega, rfl, Lib.hid (by intro i hi h; omega), PNV.out, OV.out, B6V.out⟩
      case round =>
        obtain ⟨j, rfl, hj, rfl, HS, hP, hO, hBB⟩ := hrel
        rename World => wr2
        have PA := Lib.hid hP
        have OO := Lib.hid hO
        have BB := Lib.hid hBB
        have B52 := Lib.hid (B56.out.trans (hBB.mono B56.out.size))
        clear hP hO
        by_cases hjl : j < an
        · have hja : j < aL.length := by have := HAN.out; omega
          obtain ⟨b, o, hA, hb, e0, e1, e2, e3, e4⟩ := ((RD.out.below B52.out).more B52.out.size).dep_at hja
          have DC := Lib.hid (fun W (hb : Below wr2.heap.size wr2 W) => show W.cell? ⟨b, o + j * 5, none⟩ = some (.string (bs aL[j].name)) ∧ W.cell? ⟨b, o + j * 5 + 1, none⟩ = some (.int .u8 aL[j].op) ∧ W.cell? ⟨b, o + j * 5 + 2, none⟩ = some (.int .i64 aL[j].evr.epoch) ∧ W.cell? ⟨b, o + j * 5 + 3, none⟩ = some (.string (bs aL[j].evr.ver)) ∧ W.cell? ⟨b, o + j * 5 + 4, none⟩ = some (.string (bs aL[j].evr.rel)) from ⟨(hb.cell (World.block_lt_of_cell? wr2 _ e0)).trans e0, (hb.cell (World.block_lt_of_cell? wr2 _ e1)).trans e1, (hb.cell (World.block_lt_of_cell? wr2 _ e2)).trans e2, (hb.cell (World.block_lt_of_cell? wr2 _ e3)).trans e3, (hb.cell (World.block_lt_of_cell? wr2 _ e4)).trans e4⟩)
          have PV := Lib.hid (fun W (hb : Below wr2.heap.size wr2 W) => pkprov_any q aL[j] W (LQ.out.calls (BB.out.trans (hb.mono BB.out.size))) QS.out QO.out (small_ok (dep_small (AM.out _ (List.getElem_mem hja)))) (Dp.wf_ok (ATW.out _ (List.getElem_mem hja))))
          have HYS := Lib.hid (fun (h : provB q aL[j] = true) => show aL.any (provB q) = true from List.any_eq_true.2 ⟨_, List.getElem_mem hja, h⟩)
          have HNX := Lib.hid (fun (h : provB q aL[j] = false) => show ∀ i (hi : i < aL.length), i < j + 1 → provB q aL[i] = false from fun i hi hij => by
            by_cases e : i = j
            · subst e; exact h
            · exact HS.out i hi (by omega))
          have IK := Lib.hid (show (0 : Int) ≤ (j : Int) ∧ (j : Int) < (an : Int) by omega)
          generalize aL[j] = d at *
          obtain ⟨pv, hpv⟩ : ∃ p, provB q d = p := ⟨_, rfl⟩
          rw [hpv] at PV
          have HPV := Lib.hid hpv
          have i1' := IK.out.2
          unfold Pk.val Dp.val at PV
          subst hA
          clear hpv hja hb e0 e1 e2 e3 e4 hBB
          go_wp2_with fail
          refine wp_region_tail (PP := tp15 b o an ac j q d pv) 6 rfl (by kernel_rfl) (by kernel_rfl) (by decide) (by decide) (tp15_mono b o an ac j q d pv) (fun ii => match ii with | 0 => u69 | 1 => u70 | 2 => u71 | 3 => u72 | 4 => u73 | 5 => u74 | _ => undef) (by simp [fillV, put_someT, setIfInBounds_toArray, set_cons_zero, set_cons_succ]) ?_ ?_
          · intro i o vs W hi ho he hBW K hK
            simp only [take_succ_cons, take_zero, fillV, put_someT, setIfInBounds_toArray, set_cons_zero, set_cons_succ] at hK ⊢
            have BW9 := Lib.hid hBW
            have PW := Lib.hid (PA.out.calls hBW)
            have DW := Lib.hid (DC.out W hBW)
            obtain rfl | rfl | rfl | rfl | rfl | rfl := (show i = 0 ∨ i = 1 ∨ i = 2 ∨ i = 3 ∨ i = 4 ∨ i = 5 by exact (by have : i < 6 := hi; omega))
            · simp only [getElem?_toArray, getElem?_cons_zero, getElem?_cons_succ, Option.some.injEq] at ho
              subst ho
              rw [if_pos (by rfl)]
              simp only [put_someT, setIfInBounds_toArray, set_cons_zero, set_cons_succ] at hK
              have HK := Lib.hid hK
              clear hK he hi hBW
              obtain ⟨_, c0, c1, c2, c3, c4, c5, c6, c7, c8, c9, c10, c11, c12, c13, c14⟩ := PW.out
              go_simp
              exact HK.out _ _ rfl (Below.refl _ _)
            · simp only [getElem?_toArray, getElem?_cons_zero, getElem?_cons_succ, Option.some.injEq] at ho
              subst ho
              rw [if_pos (by rfl)]
              simp only [put_someT, setIfInBounds_toArray, set_cons_zero, set_cons_succ] at hK
              have HK := Lib.hid hK
              clear hK he hi hBW
              go_simp
              exact HK.out _ _ (by first | rfl | simp [tp15]) (Below.refl _ _)
            · simp only [getElem?_toArray, getElem?_cons_zero, getElem?_cons_succ, Option.some.injEq] at ho
              subst ho
              rw [if_pos (by rfl)]
              simp only [put_someT, setIfInBounds_toArray, set_cons_zero, set_cons_succ] at hK
              have HK := Lib.hid hK
              clear hK he hi hBW
              go_simp
              exact HK.out _ _ (by first | rfl | simp [tp15]) (Below.refl _ _)
            · simp only [getElem?_toArray, getElem?_cons_zero, getElem?_cons_succ, Option.some.injEq] at ho
              subst ho
              have e1 : vs 1 = .slice (some ⟨b, o, none⟩) an ac := (he ⟨1, .data⟩ (by simp) rfl : tp15 b o an ac j q d pv 1 (vs 1) W)
              rw [e1] at hK ⊢
              have e2 : vs 2 = .int .i64 (j : Int) := (he ⟨2, .data⟩ (by simp) rfl : tp15 b o an ac j q d pv 2 (vs 2) W)
              rw [e2] at hK ⊢
              rw [if_pos (by rfl)]
              simp only [put_someT, setIfInBounds_toArray, set_cons_zero, set_cons_succ] at hK
              have HK := Lib.hid hK
              clear hK he hi hBW
              have i0 := IK.out.1
              have i1 := IK.out.2
              go_simp
              exact HK.out _ _ (by simp [tp15]) (Below.refl _ _)
            · simp only [getElem?_toArray, getElem?_cons_zero, getElem?_cons_succ, Option.some.injEq] at ho
              subst ho
              have e3 : vs 3 = .pointer (some ⟨b, o + j * 5, none⟩) := (he ⟨3, .data⟩ (by simp) rfl : tp15 b o an ac j q d pv 3 (vs 3) W)
              rw [e3] at hK ⊢
              rw [if_pos (by rfl)]
              simp only [put_someT, setIfInBounds_toArray, set_cons_zero, set_cons_succ] at hK
              have HK := Lib.hid hK
              clear hK he hi hBW
              obtain ⟨f0, f1, f2, f3, f4⟩ := DW.out
              go_simp
              exact HK.out _ _ rfl (Below.refl _ _)
            · simp only [getElem?_toArray, getElem?_cons_zero, getElem?_cons_succ, Option.some.injEq] at ho
              subst ho
              have e0 : vs 0 = .agg #[.string q.name, .int .i64 q.epoch, .string q.ver, .string q.rel, .int .u8 q.arch, .string q.vendor, .slice q.provA q.prov.length q.provC, .slice q.reqA q.req.length q.reqC, .slice q.conA q.con.length q.conC, .slice q.obsA q.obs.length q.obsC, .slice q.rcmA q.rcm.length q.rcmC, .slice q.supA q.sup.length q.supC, .slice q.sugA q.sug.length q.sugC, .slice q.enhA q.enh.length q.enhC, .slice q.filesA q.files.length q.filesC] := (he ⟨0, .data⟩ (by simp) rfl : tp15 b o an ac j q d pv 0 (vs 0) W)
              rw [e0] at hK ⊢
              have e4 : vs 4 = .agg #[.string (bs d.name), .int .u8 d.op, .int .i64 d.evr.epoch, .string (bs d.evr.ver), .string (bs d.evr.rel)] := (he ⟨4, .data⟩ (by simp) rfl : tp15 b o an ac j q d pv 4 (vs 4) W)
              rw [e4] at hK ⊢
              rw [if_pos (by rfl)]
              simp only [put_someT, setIfInBounds_toArray, set_cons_zero, set_cons_succ] at hK
              have HK := Lib.hid hK
              clear hK he hi hBW
              have CW := PV.out W BW9.out
              go_simp
              go_at_call 49
              refine CW.mono ?_
              rintro en w9 ⟨rfl, h⟩
              go_simp
              exact HK.out _ _ rfl h
          · intro vs W3 hall hBW
            have eo : vs 5 = .bool pv := hall 5 (by decide)
            simp only [take_succ_cons, take_zero, List.drop_succ_cons, List.drop_zero, fillV, put_someT, put_noneC, setIfInBounds_toArray, set_cons_zero, set_cons_succ]
            rw [eo]
            generalize vs 0 = q0
            generalize vs 1 = q1
            generalize vs 2 = q2
            generalize vs 3 = q3
            generalize vs 4 = q4
            have BB3 := Lib.hid (BB.out.trans (hBW.mono BB.out.size))
            have PA3 := Lib.hid (PA.out.calls hBW)
            have OO3 := Lib.hid (OO.out.below hBW (Nat.le_refl _))
            have E3 := Lib.hid ((BB3.out.cell (World.block_lt_of_cell? w6 _ E6.out)).trans E6.out)
            clear hall hBW eo DC PV BB PA OO PNV
            cases pv
            · go_wp2_with fail
              go_roundw
              case rel => exact ⟨j + 1, rfl, by omega, by go_num, Lib.hid (HNX.out HPV.out), PA3.out, OO3.out, BB3.out⟩
              case measure => simp [intOf]; omega
            · have WK2 := Lib.hid (show someV N L2 aL (S.take (k + 1)) = D ++ [(n : Int)] from by rw [WK.out, if_pos (HYS.out HPV.out)])
              have e3 := E3.out
              have B53 := Lib.hid (B56.out.trans (BB3.out.mono B56.out.size))
              clear WK HYS HNX HPV
              have OO3n := Lib.hid (show W3.ownsRow w5.heap.size 3 1 (.slice vA dn vc) dn (D.flatMap encI) from HDN.out ▸ OO3.out)
              go_wp2_with (at_builtin; go_loud (refine wpList_append_own _ rfl _ _ 42 rfl w5.heap.size 3 i0 (.int .i64 0) 1 8 Tryz.underlying42 hi hz0 hz1 hz2 rfl (by decide) _ _ _ rfl (World.ownsRow.alloc OO3n.out _) ⟨W3.heap.size, 0, none⟩ 1 1 [.int .i64 (n : Int)] rfl rfl ?c1 ?c2 ?c3 ?c4 ?c5 ?c6))
              case c1 => exact cell_one_new _ _ _
              case c2 => simp [Value.oneCell']
              case c3 => have := WKL.out; unfold maxLen; omega
              case c4 => have := WKL.out; omega
              case c5 => simp only [World.size_alloc]; have := B53.out.size; omega
              case c6 =>
                intro v' w8 ho6 hg6 _
                have B58 := Lib.hid ((B53.out.alloc B53.out.size _).grown hg6 (by simp only [World.size_alloc]; have := B53.out.size; omega) (fun j hj => (World.ownsRow.lt (World.ownsRow.alloc OO3n.out (.cells #[.int .i64 (n : Int)] 3)) j hj).1))
                have OV6 := Lib.hid (Own.snoc (x := (n : Int)) (HDN.out ▸ ho6))
                clear ho6 hg6 OO3 OO3n B53 e3 E3 E6
                go_wp2_with fail
                go_roundw
                case rel => exact ⟨k + 1, by omega, by go_num, by rw [WK2.out]; exact OV6.out, B58.out⟩
                case measure => simp [intOf]; omega
        · obtain rfl : j = an := by omega
          have i1' : ¬ (j : Int) < (j : Int) := by omega
          have WK2 := Lib.hid (show someV N L2 aL (S.take (k + 1)) = D from by
            rw [WK.out, if_neg, List.append_nil]
            rw [Bool.not_eq_true, List.any_eq_false]
            intro x hx
            obtain ⟨i, hi, rfl⟩ := List.getElem_of_mem hx
            rw [HS.out i hi (by have := HAN.out; omega)]; simp)
          clear WK hBB
          go_wp2_with fail
          go_roundw
          case rel => exact ⟨k + 1, by omega, by go_num, by rw [WK2.out]; exact OO.out, B52.out⟩
          case measure => simp [intOf]; omega
    · obtain rfl : k = m := by omega
      have i1 : ¬ (k : Int) < (k : Int) := by omega
      have KR := Lib.hid (show Rd encI 1 wr.heap.size vA vc D wr from by
        obtain ⟨A8, c8, e8, hr8⟩ := Own.rd OW.out (fun _ => rfl)
        cases e8
        exact hr8)
      have HDS := Lib.hid (HD.out.trans SE.out)
      have SAT := Lib.hid (fun W (hb : Below wr.heap.size wr W) A c S' (hR : Rd encI 1 W.heap.size A c S' W) => tsat_any ((T8.out.then HB.out).then hb) (TM0.out W (BW.out.trans (hb.mono BW.out.size))).1 A c S' hR R (TM0.out W (BW.out.trans (hb.mono BW.out.size))).2.1 (by have := NW.out.2; omega))
      obtain ⟨a, ha⟩ : ∃ a, Tr.satS N (pvL L2) S R.tree = a := ⟨_, rfl⟩
      have SA1 := Lib.hid (fun W (hb : Below wr.heap.size wr W) => SAT.out W hb SA sc S (TM0.out W (BW.out.trans (hb.mono BW.out.size))).2.2)
      have SA2 := Lib.hid (fun W (hb : Below wr.heap.size wr W) => SAT.out W hb vA vc D ((KR.out.below hb).more hb.size))
      rw [HM.out, ha] at SA1
      rw [← HDN.out, HDS.out, SSA.out N, ha] at SA2
      unfold RV.val at SA1 SA2
      clear SAT ha KR hB
      go_wp2_with fail
      refine wp_region_tail (PP := tp17 T k sc dn vc SA vA R a) 10 rfl (by kernel_rfl) (by kernel_rfl) (by decide) (by decide) (tp17_mono T k sc dn vc SA vA R a) (fun ii => match ii with | 9 => .bool false | _ => undef) (by simp [fillV, put_someT, setIfInBounds_toArray, set_cons_zero, set_cons_succ]) ?_ ?_
      · intro i o vs W hi ho he hBW K hK
        simp only [take_succ_cons, take_zero, fillV, put_someT, setIfInBounds_toArray, set_cons_zero, set_cons_succ] at hK ⊢
        have B9W := Lib.hid hBW
        have RW := Lib.hid (RBW.out.then hBW)
        obtain rfl | rfl | rfl | rfl | rfl | rfl | rfl | rfl | rfl | rfl := (show i = 0 ∨ i = 1 ∨ i = 2 ∨ i = 3 ∨ i = 4 ∨ i = 5 ∨ i = 6 ∨ i = 7 ∨ i = 8 ∨ i = 9 by exact (by have : i < 10 := hi; omega))
        · simp only [getElem?_toArray, getElem?_cons_zero, getElem?_cons_succ, Option.some.injEq] at ho
          subst ho
          rw [if_pos (by rfl)]
          simp only [put_someT, setIfInBounds_toArray, set_cons_zero, set_cons_succ] at hK
          have HK := Lib.hid hK
          clear hK he hi hBW
          go_simp
          exact HK.out _ _ (by first | rfl | simp [tp17]) (Below.refl _ _)
        · simp only [getElem?_toArray, getElem?_cons_zero, getElem?_cons_succ, Option.some.injEq] at ho
          subst ho
          rw [if_pos (by rfl)]
          simp only [put_someT, setIfInBounds_toArray, set_cons_zero, set_cons_succ] at hK
          have HK := Lib.hid hK
          clear hK he hi hBW
          go_simp
          exact HK.out _ _ (by first | rfl | simp [tp17]) (Below.refl _ _)
        · simp only [getElem?_toArray, getElem?_cons_zero, getElem?_cons_succ, Option.some.injEq] at ho
          subst ho
          rw [if_pos (by rfl)]
          simp only [put_someT, setIfInBounds_toArray, set_cons_zero, set_cons_succ] at hK
          have HK := Lib.hid hK
          clear hK he hi hBW
          obtain ⟨_, c0, c1, c2, c3, c4, c5, c6⟩ := RW.out
          go_simp
          exact HK.out _ _ rfl (Below.refl _ _)
        · simp only [getElem?_toArray, getElem?_cons_zero, getElem?_cons_succ, Option.some.injEq] at ho
          subst ho
          have e0 : vs 0 = .pointer (some ⟨T, 0, none⟩) := (he ⟨0, .data⟩ (by simp) rfl : tp17 T k sc dn vc SA vA R a 0 (vs 0) W)
          rw [e0] at hK ⊢
          have e1 : vs 1 = .slice SA k sc := (he ⟨1, .data⟩ (by simp) rfl : tp17 T k sc dn vc SA vA R a 1 (vs 1) W)
          rw [e1] at hK ⊢
          have e2 : vs 2 = .agg #[.int .u8 R.kind, .string (bs R.dep.name), .int .u8 R.dep.op, .int .i64 R.dep.evr.epoch, .string (bs R.dep.evr.ver), .string (bs R.dep.evr.rel), .slice R.addr R.args.length R.cap] := (he ⟨2, .data⟩ (by simp) rfl : tp17 T k sc dn vc SA vA R a 2 (vs 2) W)
          rw [e2] at hK ⊢
          rw [if_pos (by rfl)]
          simp only [put_someT, setIfInBounds_toArray, set_cons_zero, set_cons_succ] at hK
          have HK := Lib.hid hK
          clear hK he hi hBW
          have CW := SA1.out W B9W.out
          go_simp
          go_at_call 40
          refine CW.mono ?_
          rintro en w9 ⟨rfl, h⟩
          go_simp
          exact HK.out _ _ rfl h
        · simp only [getElem?_toArray, getElem?_cons_zero, getElem?_cons_succ, Option.some.injEq] at ho
          subst ho
          rw [if_pos (by rfl)]
          simp only [put_someT, setIfInBounds_toArray, set_cons_zero, set_cons_succ] at hK
          have HK := Lib.hid hK
          clear hK he hi hBW
          go_simp
          exact HK.out _ _ (by first | rfl | simp [tp17]) (Below.refl _ _)
        · simp only [getElem?_toArray, getElem?_cons_zero, getElem?_cons_succ, Option.some.injEq] at ho
          subst ho
          rw [if_pos (by rfl)]
          simp only [put_someT, setIfInBounds_toArray, set_cons_zero, set_cons_succ] at hK
          have HK := Lib.hid hK
          clear hK he hi hBW
          go_simp
          exact HK.out _ _ (by first | rfl | simp [tp17]) (Below.refl _ _)
        · simp only [getElem?_toArray, getElem?_cons_zero, getElem?_cons_succ, Option.some.injEq] at ho
          subst ho
          rw [if_pos (by rfl)]
          simp only [put_someT, setIfInBounds_toArray, set_cons_zero, set_cons_succ] at hK
          have HK := Lib.hid hK
          clear hK he hi hBW
          obtain ⟨_, c0, c1, c2, c3, c4, c5, c6⟩ := RW.out
          go_simp
          exact HK.out _ _ rfl (Below.refl _ _)
        · simp only [getElem?_toArray, getElem?_cons_zero, getElem?_cons_succ, Option.some.injEq] at ho
          subst ho
          have e4 : vs 4 = .pointer (some ⟨T, 0, none⟩) := (he ⟨4, .data⟩ (by simp) rfl : tp17 T k sc dn vc SA vA R a 4 (vs 4) W)
          rw [e4] at hK ⊢
          have e5 : vs 5 = .slice vA dn vc := (he ⟨5, .data⟩ (by simp) rfl : tp17 T k sc dn vc SA vA R a 5 (vs 5) W)
          rw [e5] at hK ⊢
          have e6 : vs 6 = .agg #[.int .u8 R.kind, .string (bs R.dep.name), .int .u8 R.dep.op, .int .i64 R.dep.evr.epoch, .string (bs R.dep.evr.ver), .string (bs R.dep.evr.rel), .slice R.addr R.args.length R.cap] := (he ⟨6, .data⟩ (by simp) rfl : tp17 T k sc dn vc SA vA R a 6 (vs 6) W)
          rw [e6] at hK ⊢
          rw [if_pos (by rfl)]
          simp only [put_someT, setIfInBounds_toArray, set_cons_zero, set_cons_succ] at hK
          have HK := Lib.hid hK
          clear hK he hi hBW
          have CW := SA2.out W B9W.out
          go_simp
          go_at_call 40
          refine CW.mono ?_
          rintro en w9 ⟨rfl, h⟩
          go_simp
          exact HK.out _ _ rfl h
        · simp only [getElem?_toArray, getElem?_cons_zero, getElem?_cons_succ, Option.some.injEq] at ho
          subst ho
          have e3 : vs 3 = .bool a := (he ⟨3, .data⟩ (by simp) rfl : tp17 T k sc dn vc SA vA R a 3 (vs 3) W)
          rw [e3] at hK ⊢
          have e7 : vs 7 = .bool a := (he ⟨7, .data⟩ (by simp) rfl : tp17 T k sc dn vc SA vA R a 7 (vs 7) W)
          rw [e7] at hK ⊢
          rw [if_pos (by rfl)]
          simp only [put_someT, setIfInBounds_toArray, set_cons_zero, set_cons_succ] at hK
          have HK := Lib.hid hK
          clear hK he hi hBW
          go_simp
          exact HK.out _ _ (by simp [tp17]) (Below.refl _ _)
        · simp only [getElem?_toArray, getElem?_cons_zero, getElem?_cons_succ, Option.some.injEq] at ho
          subst ho
          have e8 : vs 8 = .bool true := (he ⟨8, .data⟩ (by simp) rfl : tp17 T k sc dn vc SA vA R a 8 (vs 8) W)
          rw [e8] at hK ⊢
          rw [if_pos (by rfl)]
          simp only [put_someT, setIfInBounds_toArray, set_cons_zero, set_cons_succ] at hK
          have HK := Lib.hid hK
          clear hK he hi hBW
          go_simp
          exact HK.out _ _ (by first | rfl | simp [tp17]) (Below.refl _ _)
      · intro vs W9 hall hBW
        have eo : vs 9 = .bool true := hall 9 (by decide)
        simp only [take_succ_cons, take_zero, List.drop_succ_cons, List.drop_zero, fillV, put_someT, put_noneC, setIfInBounds_toArray, set_cons_zero, set_cons_succ]
        rw [eo]
        generalize vs 0 = q0
        generalize vs 1 = q1
        generalize vs 2 = q2
        generalize vs 3 = q3
        generalize vs 4 = q4
        generalize vs 5 = q5
        generalize vs 6 = q6
        generalize vs 7 = q7
        generalize vs 8 = q8
        have B9 := Lib.hid (BW.out.trans (hBW.mono BW.out.size))
        clear hall hBW eo
        go_wp2_with fail
        go_ret
        exact ⟨rfl, B9.out⟩
end Go.Proofs.YteobmfpbgnmffaaGreatDoor
