/- PkLessW -/
import Derived.Test.YtoglbogfoolkaaaDoorPkgLessRowG40
import Derived.Test.YtoglbogfoolkaaaDoorPkgLessRowG43
import Derived.Deep.RegionLaw
/- PkgLess, walked. -/



namespace Go.Proofs.YtoglbogfoolkaaaDoor
open Go.RowKit Go.Shelf
set_option linter.unusedVariables false

theorem kmod (k0 : Int) : ∃ km : Nat, wrap64 ((IntKind.u64.wrap k0).tmod 1000) = (km : Int) ∧ km < 1000 := by
  have h0 : 0 ≤ IntKind.u64.wrap k0 := by unfold IntKind.wrap; simp [IntKind.signed, IntKind.bits]; try omega
  generalize IntKind.u64.wrap k0 = u at *
  rw [Int.tmod_eq_emod_of_nonneg h0]
  have h1 : 0 ≤ u % 1000 := by omega
  have h2 : u % 1000 < 1000 := by omega
  refine ⟨(u % 1000).toNat, ?_, by omega⟩
  have h3 : wrap64 (u % 1000) = u % 1000 := by unfold wrap64; omega
  rw [h3]; omega
set_option maxRecDepth 100000 in
set_option maxHeartbeats 16000000 in
theorem pkgLess_row (w : World) (hI : PkIn w) (p : Pk) (hL : p.Laid w.heap.size w ∧ ∀ x ∈ LS p, ∀ t ∈ x.l, KO t) (k0 : Int) (hk : (Lit.int .i64 k0).wf = true) : Calls Tryd.prog 3 #[p.val, .int .i64 k0] w fun e w' => e = .returned (.bool true) ∧ Below w.heap.size w w' := by
  obtain ⟨hL, hK⟩ := hL
  have LP := Lib.hid (fun W (h : Below w.heap.size w W) => pklarge2_any p W ((hL.below h).more h.size))
  have AW := Lib.hid (fun W (h : Below w.heap.size w W) => awake10 W (hI.below h))
  have MY := Lib.hid (fun (hd : p.deepOk) W (h : Below w.heap.size w W) => pkmaya_any p W (hI.below h) ((hL.below h).more h.size) hd)
  have CP := Lib.hid (fun (hf : p.few) W (h : Below w.heap.size w W) => refcopy_any p W ((hL.below h).more h.size) hf)
  have MQ := Lib.hid (fun (q : Pk) W (h : Below w.heap.size w W) (hl : q.Laid W.heap.size W) (hd : q.deepOk) (hm : mayP q = true) => (show Calls Tryd.prog 7 #[q.val] W fun e w' => e = .returned (.bool true) ∧ Below W.heap.size W w' from hm ▸ pkmaya_any q W (hI.below h) hl hd))
  obtain ⟨km, hkm, hkl⟩ : ∃ km : Nat, wrap64 ((IntKind.u64.wrap k0).tmod 1000) = (km : Int) ∧ km < 1000 := kmod k0
  have HI := Lib.hid hI
  have HL := Lib.hid hL
  have HK := Lib.hid hK
  have B0 := (Below.refl w.heap.size w).alloc (Nat.le_refl _) (.cells #[.string p.name, .int .i64 p.epoch, .string p.ver, .string p.rel, .int .u8 p.arch, .string p.vendor, .slice p.provA p.prov.length p.provC, .slice p.reqA p.req.length p.reqC, .slice p.conA p.con.length p.conC, .slice p.obsA p.obs.length p.obsC, .slice p.rcmA p.rcm.length p.rcmC, .slice p.supA p.sup.length p.supC, .slice p.sugA p.sug.length p.sugC, .slice p.enhA p.enh.length p.enhC, .slice p.filesA p.files.length p.filesC] 28)
  have P0 := Lib.hid (PkAt.new w p)
  have B0 := Lib.hid B0
  clear hI hL hK
  unfold LargePost2 at LP
  unfold Pk.val at LP MY CP MQ ⊢
  go_enter Tryd.func3, Tryd.ntmps3
  obtain ⟨hl, c0, c1, c2, c3, c4, c5, c6, c7, c8, c9, c10, c11, c12, c13, c14⟩ := P0.out
  go_wp2_with fail
  go_at_call 5
  refine (LP.out _ B0.out).mono ?_
  rintro e w1 ⟨r1, rfl, SP, h⟩
  have B1 := Lib.hid (B0.out.trans (h.mono B0.out.size))
  have P1 := Lib.hid (P0.out.calls h)
  have SP := Lib.hid SP
  clear h hl B0 P0 LP c0 c1 c2 c3 c4 c5 c6 c7 c8 c9 c10 c11 c12 c13 c14
  cases r1
  rotate_left
  · go_wp2_with fail
    go_at_call 6
    refine (AW.out _ B1.out).mono ?_
    rintro e w9 ⟨rfl, h⟩
    have B9 := B1.out.trans (h.mono B1.out.size)
    go_wp2
    go_ret
    exact ⟨rfl, B9⟩
  have SF := Lib.hid (few_of (p := p) (B := 0) (W := w) (SP.out rfl))
  have SD := Lib.hid (deep_few HK.out (SP.out rfl).2)
  go_wp2_with fail
  go_at_call 6
  refine (AW.out _ B1.out).mono ?_
  rintro e w2 ⟨rfl, h⟩
  have B2 := Lib.hid (B1.out.trans (h.mono B1.out.size))
  have P2 := Lib.hid (P1.out.calls h)
  clear h B1 P1
  obtain ⟨hl, c0, c1, c2, c3, c4, c5, c6, c7, c8, c9, c10, c11, c12, c13, c14⟩ := P2.out
  go_wp2_with fail
  go_at_call 7
  refine (MY.out SD.out _ B2.out).mono ?_
  rintro e w3 ⟨rfl, h⟩
  have B3 := Lib.hid (B2.out.trans (h.mono B2.out.size))
  have P3 := Lib.hid (P2.out.calls h)
  clear h B2 P2 hl c0 c1 c2 c3 c4 c5 c6 c7 c8 c9 c10 c11 c12 c13 c14
  cases hmp : mayP p
  · clear hmp
    go_wp2
    go_ret
    exact ⟨rfl, B3.out⟩
  have HMP := Lib.hid hmp
  clear hmp
  obtain ⟨hl, c0, c1, c2, c3, c4, c5, c6, c7, c8, c9, c10, c11, c12, c13, c14⟩ := P3.out
  go_wp2_with fail
  go_at_call 8
  refine (CP.out SF.out _ B3.out).mono ?_
  rintro e w4 ⟨q, rfl, hq, ho, h⟩
  have B4 := Lib.hid (B3.out.trans (h.mono B3.out.size))
  have QM := Lib.hid (hq.may.trans HMP.out)
  have QD := Lib.hid (hq.deep SD.out)
  have QL := Lib.hid (ho.laid hq HL.out)
  clear h B3 P3 hl hq ho c0 c1 c2 c3 c4 c5 c6 c7 c8 c9 c10 c11 c12 c13 c14 MY CP SF SD HMP SP
  go_wp2_with fail
  obtain ⟨V, hV⟩ : ∃ V, V = (w4.alloc (.cells #[.string q.name, .int .i64 q.epoch, .string q.ver, .string q.rel, .int .u8 q.arch, .string q.vendor, .slice q.provA q.prov.length q.provC, .slice q.reqA q.req.length q.reqC, .slice q.conA q.con.length q.conC, .slice q.obsA q.obs.length q.obsC, .slice q.rcmA q.rcm.length q.rcmC, .slice q.supA q.sup.length q.supC, .slice q.sugA q.sug.length q.sugC, .slice q.enhA q.enh.length q.enhC, .slice q.filesA q.files.length q.filesC] 28)).alloc (.cells #[.pointer (some ⟨w4.heap.size, 7, none⟩), .pointer (some ⟨w4.heap.size, 8, none⟩), .pointer (some ⟨w4.heap.size, 10, none⟩), .pointer (some ⟨w4.heap.size, 11, none⟩), .pointer (some ⟨w4.heap.size, 12, none⟩), .pointer (some ⟨w4.heap.size, 13, none⟩)] 33) := ⟨_, rfl⟩
  have hz4 : (w4.alloc (.cells #[.string q.name, .int .i64 q.epoch, .string q.ver, .string q.rel, .int .u8 q.arch, .string q.vendor, .slice q.provA q.prov.length q.provC, .slice q.reqA q.req.length q.reqC, .slice q.conA q.con.length q.conC, .slice q.obsA q.obs.length q.obsC, .slice q.rcmA q.rcm.length q.rcmC, .slice q.supA q.sup.length q.supC, .slice q.sugA q.sug.length q.sugC, .slice q.enhA q.enh.length q.enhC, .slice q.filesA q.files.length q.filesC] 28)).heap.size = w4.heap.size + 1 := by simp
  have b4 : Below w4.heap.size w4 V := by rw [hV]; exact ((Below.refl _ _).alloc (Nat.le_refl _) _).alloc (by rw [hz4]; omega) _
  have S0 : LessAt w w4.heap.size q V := by
    rw [hV]
    refine ⟨⟨(PkAt.new w4 q).calls ((Below.refl _ _).alloc (Nat.le_refl _) _), fun i hi => by simp [go_sem], by simp; omega⟩, LaidX.of (QL.out.below (hV ▸ b4)) (by simp; omega), QM.out, QD.out, B4.out.trans ((hV ▸ b4).mono B4.out.size), B4.out.size⟩
  have PT0 : PtrAt (w4.heap.size + 1) w4.heap.size offR 6 V := by
    rw [hV]
    refine ⟨by simp, by omega, fun i hi => ?_⟩
    obtain rfl | rfl | rfl | rfl | rfl | rfl : i = 0 ∨ i = 1 ∨ i = 2 ∨ i = 3 ∨ i = 4 ∨ i = 5 := by omega
    all_goals exact (World.cell?_alloc_at _ _ _ _ (by simp)).trans rfl
  rw [← hV]
  have S0 := Lib.hid S0
  have PT0 := Lib.hid PT0
  have HKM := Lib.hid hkm
  rw [hkm]
  clear hV hz4 b4 B4 QL QM QD hkm
  generalize w4.heap.size = cb at *
  generalize (Value.agg #[.string p.name, .int .i64 p.epoch, .string p.ver, .string p.rel, .int .u8 p.arch, .string p.vendor, .slice p.provA p.prov.length p.provC, .slice p.reqA p.req.length p.reqC, .slice p.conA p.con.length p.conC, .slice p.obsA p.obs.length p.obsC, .slice p.rcmA p.rcm.length p.rcmC, .slice p.supA p.sup.length p.supC, .slice p.sugA p.sug.length p.sugC, .slice p.enhA p.enh.length p.enhC, .slice p.filesA p.files.length p.filesC]) = vp
  generalize (Value.agg #[.string q.name, .int .i64 q.epoch, .string q.ver, .string q.rel, .int .u8 q.arch, .string q.vendor, .slice q.provA q.prov.length q.provC, .slice q.reqA q.req.length q.reqC, .slice q.conA q.con.length q.conC, .slice q.obsA q.obs.length q.obsC, .slice q.rcmA q.rcm.length q.rcmC, .slice q.supA q.sup.length q.supC, .slice q.sugA q.sug.length q.sugC, .slice q.enhA q.enh.length q.enhC, .slice q.filesA q.files.length q.filesC]) = vq
  generalize IntKind.u64.wrap k0 = ku
  generalize ku.tmod 1000 = kt
  go_loopw [38] (fun iv wr => ∃ (i : Nat) (q : Pk), i ≤ 6 ∧ iv = .int .i64 (i : Int) ∧ LessAt w cb q wr ∧ PtrAt (cb + 1) cb offR 6 wr) (fun iv _ => 6 - (intOf iv).toNat)
  case atStart => exact ⟨0, q, by omega, rfl, S0.out, PT0.out⟩
  case round =>
    obtain ⟨i, q, hi, rfl, hS, hP⟩ := hrel
    rename World => wr
    have S := Lib.hid hS
    have PT := Lib.hid hP
    clear hS hP S0 PT0
    by_cases hlt : i < 6
    · have i0 : (0 : Int) ≤ (i : Int) := by omega
      have i1 : (i : Int) < 6 := by omega
      have pc := PT.out.2.2 i hlt
      have bc := box_row S.out.box hlt
      have fz := S.out.box.2.1 (offR i) (offR_lt i)
      have hcb := S.out.box.2.2
      have RW := Lib.hid (S.out.laid.rowi hlt).rd
      have hlen := six_len S.out.may hlt
      have SETS := Lib.hid (fun (n : Nat) (A : Option Addr) (c : Nat) (W2 : World) (hb : Below wr.heap.size wr W2) ho => LessAt.setR S.out hlt (W2 := W2) hb (A := A) (c := c) (n := n) ho)
      generalize offR i = o6 at *
      generalize q.rA i = A6 at *
      generalize q.rC i = c6 at *
      generalize sixL q i = l6 at *
      by_cases hz : l6.length = 0
      · rw [hz] at bc
        have HZ := Lib.hid hz
        clear hz fz hlen RW SETS
        as_aux_lemma =>
          obtain ⟨hl, c0, c1, c2, c3, c4, c5, c6, c7, c8, c9, c10, c11, c12, c13, c14⟩ := S.out.cells
          go_wp2_with fail
          go_at_call 7
          refine (MQ.out q _ S.out.old S.out.pk S.out.deep S.out.may).mono ?_
          rintro e w9 ⟨rfl, h⟩
          have S9 := Lib.hid (S.out.then h)
          have PT9 := Lib.hid (PT.out.then h)
          clear h hl S PT pc bc c0 c1 c2 c3 c4 c5 c6 c7 c8 c9 c10 c11 c12 c13 c14
          go_wp2_with fail
          go_roundw
          case rel => exact ⟨i + 1, q, by omega, by go_num, S9.out, PT9.out⟩
          case measure => simp [intOf]; omega
      · skip
        obtain ⟨b, o, hA, hb, _⟩ := RW.out.2.2 0 (by omega)
        subst hA
        obtain ⟨n, hn⟩ : ∃ n, n = km % l6.length := ⟨_, rfl⟩
        have hnl : n < l6.length := by rw [hn]; exact Nat.mod_lt _ (by omega)
        have hmod : (km : Int) % (l6.length : Int) = (n : Int) := by rw [hn]; omega
        have hcl := RW.out.1
        have T1 := Lib.hid (RW.out.take_ n)
        have T2 := Lib.hid (RW.out.drop_ (n := n + 1) (by omega))
        unfold restA at T2
        have L1 := Lib.hid (show (l6.take n).length = n by rw [List.length_take]; omega)
        have L2 := Lib.hid (show (l6.drop (n + 1)).length = l6.length - (n + 1) by rw [List.length_drop])
        obtain ⟨m, hm⟩ : ∃ m, m = l6.length := ⟨_, rfl⟩
        rw [← hm] at bc hlen hz hnl hmod hcl
        have HM := Lib.hid hm
        clear hm hn RW
        have j0 : (0 : Int) ≤ (n : Int) := by omega
        have j1 : (n : Int) < (m : Int) := by omega
        have j2 : (0 : Int) < (m : Int) := by omega
        have j3 : (m : Int) ≤ (c6 : Int) := by omega
        have j4 : (n : Int) + 1 ≤ (m : Int) := by omega
        have j5 : (n : Int) ≤ (c6 : Int) := by omega
        have j6 : (n : Int) + 1 ≤ (c6 : Int) := by omega
        go_wp2_with fail
        have u3 : (0 : Int) ≤ (n : Int) + 1 := by omega
        have u1 : IntKind.i64.wrap ((n : Int) + 1) = (n : Int) + 1 := IntWalk.i64_in _ (by omega)
        have u2 : ((n : Int) + 1).toNat = n + 1 := by omega
        go_region_law (first | (refine step_append_rd _ rfl _ _ 25 rfl wr.heap.size 41 _ _ 7 _ (by rfl) (by rfl) (by rfl) (by rfl) (by rfl) (by rfl) (by decide) encR_len encR_one v1 _ _ rfl ho1 _ (if c6 = n + 1 then some ⟨b, o, none⟩ else some ⟨b, o + (n + 1) * 7, none⟩) _ (l6.drop (n + 1)) _ (by have q1 := L1.out; have q2 := L2.out; have q3 := HM.out; omega) rfl (T2.out.below hB1) (by have q1 := L1.out; have q2 := L2.out; have q3 := HM.out; omega) (by decide) hB1.size ?_; intro v2 w2 ho2 hg2 hv2; have hB2 : Below wr.heap.size wr w2 := hB1.grown hg2 hB1.size (fun k hk => (World.ownsRow.lt ho1 k hk).1); have d2 : w2.cell? ⟨cb, o6, none⟩ = some (.slice (some ⟨b, o, none⟩) m c6) := (hB2.cell (p := ⟨cb, o6, none⟩) hcb).trans bc; have g2 : w2.frozen? ⟨cb, o6, none⟩ = false := (hB2.frozen (p := ⟨cb, o6, none⟩) hcb).trans fz; obtain ⟨A9, c9, rfl⟩ := own_shape ho2) | (refine step_append_rd _ rfl _ _ 25 rfl wr.heap.size 41 _ _ 7 _ (by rfl) (by rfl) (by rfl) (by rfl) (by rfl) (by rfl) (by decide) encR_len encR_one _ 0 [] rfl (by first | exact World.ownsRow_made _ #[] 0 (Nat.le_refl _) (Nat.zero_le _) rfl) _ (some ⟨b, o, none⟩) _ (l6.take n) _ (by have q1 := L1.out; omega) rfl (T1.out.below (by first | exact (Below.refl _ _).drew | exact ((Below.refl _ wr).alloc (Nat.le_refl _) _).drew | exact (Below.refl _ wr).alloc (Nat.le_refl _) _)) (by have q1 := L1.out; omega) (by decide) (by simp; try omega) ?_; intro v1 w1 ho1 hg1 hv1; have hB1 : Below wr.heap.size wr w1 := Below.grown (by first | exact (Below.refl _ _).drew | exact ((Below.refl _ wr).alloc (Nat.le_refl _) _).drew | exact (Below.refl _ wr).alloc (Nat.le_refl _) _) hg1 (by simp; try omega) (by intro k hk; cases hk; first | exact Nat.le_refl _ | simp); have d1 : w1.cell? ⟨cb, o6, none⟩ = some (.slice (some ⟨b, o, none⟩) m c6) := (hB1.cell (p := ⟨cb, o6, none⟩) hcb).trans bc))
        all_goals
          have hown := own_less (enc := encR) ho2
          have S2 := SETS.out n A9 c9 w2 hB2 hown
          have PT2 := (PT.out.then hB2).set o6 (.slice A9 (less l6 n).length c9)
          rw [less_count]
          generalize (if c6 = n + 1 then (some ⟨b, o, none⟩ : Option Addr) else some ⟨b, o + (n + 1) * 7, none⟩) = rA at *
          generalize w2.setCell ⟨cb, o6, none⟩ (.slice A9 (less l6 n).length c9) = W2 at *
          obtain ⟨q2, hq2⟩ : ∃ q2, q2 = q.setR i A9 c9 (less l6 n) := ⟨_, rfl⟩
          rw [← hq2] at S2
          have S2 := Lib.hid S2
          have PT2 := Lib.hid PT2
          clear ho1 hg1 hv1 hB1 d1 ho2 hg2 hv2 hB2 d2 g2 hown hq2 u1 u2 u3 hmod bc fz
          as_aux_lemma =>
            obtain ⟨hl, c0, c1, c2, c3, c4, c5, c6, c7, c8, c9, c10, c11, c12, c13, c14⟩ := S2.out.cells
            go_wp2_with fail
            go_at_call 7
            refine (MQ.out q2 _ S2.out.old S2.out.pk S2.out.deep S2.out.may).mono ?_
            rintro e w9 ⟨rfl, h⟩
            have S9 := Lib.hid (S2.out.then h)
            have PT9 := Lib.hid (PT2.out.then h)
            clear h hl S PT S2 PT2 pc c0 c1 c2 c3 c4 c5 c6 c7 c8 c9 c10 c11 c12 c13 c14
            go_wp2_with fail
            go_roundw
            case rel => exact ⟨i + 1, q2, by omega, by go_num, S9.out, PT9.out⟩
            case measure => simp [intOf]; omega
    · have i1 : ¬ (i : Int) < 6 := by omega
      have S3 := Lib.hid (S.out.then ((Below.refl _ _).alloc (Nat.le_refl _) (.cells #[.pointer (some ⟨cb, 6, none⟩), .pointer (some ⟨cb, 9, none⟩)] 35)))
      have PT3 : PtrAt wr.heap.size cb offD 2 (wr.alloc (.cells #[.pointer (some ⟨cb, 6, none⟩), .pointer (some ⟨cb, 9, none⟩)] 35)) := by
        refine ⟨by simp, Nat.ne_of_gt S.out.box.2.2, fun i hi => ?_⟩
        obtain rfl | rfl : i = 0 ∨ i = 1 := by omega
        all_goals exact (World.cell?_alloc_at _ _ _ _ (by simp)).trans rfl
      have PT3 := Lib.hid PT3
      go_wp2_with fail
      generalize wr.alloc (.cells #[.pointer (some ⟨cb, 6, none⟩), .pointer (some ⟨cb, 9, none⟩)] 35) = V3 at *
      generalize wr.heap.size = gp at *
      clear S PT
      go_loopw [77] (fun iv wr => ∃ (i : Nat) (q : Pk), i ≤ 2 ∧ iv = .int .i64 (i : Int) ∧ LessAt w cb q wr ∧ PtrAt gp cb offD 2 wr) (fun iv _ => 2 - (intOf iv).toNat)
      case atStart => exact ⟨0, q, by omega, rfl, S3.out, PT3.out⟩
      case round =>
        obtain ⟨i2, q, hi2, rfl, hS, hP⟩ := hrel
        rename World => wx
        have S := Lib.hid hS
        have PT := Lib.hid hP
        clear hS hP S3 PT3
        by_cases hlt2 : i2 < 2
        · have i0 : (0 : Int) ≤ (i2 : Int) := by omega
          have i2' : (i2 : Int) < 2 := by omega
          have pc := PT.out.2.2 i2 hlt2
          have bc := box_drow S.out.box hlt2
          have fz := S.out.box.2.1 (offD i2) (offD_lt i2)
          have hcb := S.out.box.2.2
          have RW := Lib.hid (S.out.laid.drow hlt2).rd
          have hlen := dL_len S.out.may hlt2
          have SETS := Lib.hid (fun (n : Nat) (A : Option Addr) (c : Nat) (W2 : World) (hb : Below wx.heap.size wx W2) ho => LessAt.setD S.out hlt2 (W2 := W2) hb (A := A) (c := c) (n := n) ho)
          generalize offD i2 = o6 at *
          generalize q.dA i2 = A6 at *
          generalize q.dC i2 = c6 at *
          generalize dL q i2 = l6 at *
          by_cases hz : l6.length = 0
          · rw [hz] at bc
            have HZ := Lib.hid hz
            clear hz fz hlen RW SETS
            go_wp2_with fail
            go_roundw
            case rel => exact ⟨i2 + 1, q, by omega, by go_num, S.out, PT.out⟩
            case measure => simp [intOf]; omega
          · skip
            obtain ⟨b, o, hA, hb, _⟩ := RW.out.2.2 0 (by omega)
            subst hA
            obtain ⟨n, hn⟩ : ∃ n, n = km % l6.length := ⟨_, rfl⟩
            have hnl : n < l6.length := by rw [hn]; exact Nat.mod_lt _ (by omega)
            have hmod : (km : Int) % (l6.length : Int) = (n : Int) := by rw [hn]; omega
            have hcl := RW.out.1
            have T1 := Lib.hid (RW.out.take_ n)
            have T2 := Lib.hid (RW.out.drop_ (n := n + 1) (by omega))
            unfold restA at T2
            have L1 := Lib.hid (show (l6.take n).length = n by rw [List.length_take]; omega)
            have L2 := Lib.hid (show (l6.drop (n + 1)).length = l6.length - (n + 1) by rw [List.length_drop])
            obtain ⟨m, hm⟩ : ∃ m, m = l6.length := ⟨_, rfl⟩
            rw [← hm] at bc hlen hz hnl hmod hcl
            have HM := Lib.hid hm
            clear hm hn RW
            have j0 : (0 : Int) ≤ (n : Int) := by omega
            have j1 : (n : Int) < (m : Int) := by omega
            have j2 : (0 : Int) < (m : Int) := by omega
            have j3 : (m : Int) ≤ (c6 : Int) := by omega
            have j4 : (n : Int) + 1 ≤ (m : Int) := by omega
            have j5 : (n : Int) ≤ (c6 : Int) := by omega
            have j6 : (n : Int) + 1 ≤ (c6 : Int) := by omega
            go_wp2_with fail
            have u3 : (0 : Int) ≤ (n : Int) + 1 := by omega
            have u1 : IntKind.i64.wrap ((n : Int) + 1) = (n : Int) + 1 := IntWalk.i64_in _ (by omega)
            have u2 : ((n : Int) + 1).toNat = n + 1 := by omega
            go_region_law (first | (refine step_append_rd _ rfl _ _ 24 rfl wx.heap.size 39 _ _ 5 _ (by rfl) (by rfl) (by rfl) (by rfl) (by rfl) (by rfl) (by decide) encD_len encD_one v1 _ _ rfl ho1 _ (if c6 = n + 1 then some ⟨b, o, none⟩ else some ⟨b, o + (n + 1) * 5, none⟩) _ (l6.drop (n + 1)) _ (by have q1 := L1.out; have q2 := L2.out; have q3 := HM.out; omega) rfl (T2.out.below hB1) (by have q1 := L1.out; have q2 := L2.out; have q3 := HM.out; omega) (by decide) hB1.size ?_; intro v2 w2 ho2 hg2 hv2; have hB2 : Below wx.heap.size wx w2 := hB1.grown hg2 hB1.size (fun k hk => (World.ownsRow.lt ho1 k hk).1); have d2 : w2.cell? ⟨cb, o6, none⟩ = some (.slice (some ⟨b, o, none⟩) m c6) := (hB2.cell (p := ⟨cb, o6, none⟩) hcb).trans bc; have g2 : w2.frozen? ⟨cb, o6, none⟩ = false := (hB2.frozen (p := ⟨cb, o6, none⟩) hcb).trans fz; obtain ⟨A9, c9, rfl⟩ := own_shape ho2) | (refine step_append_rd _ rfl _ _ 24 rfl wx.heap.size 39 _ _ 5 _ (by rfl) (by rfl) (by rfl) (by rfl) (by rfl) (by rfl) (by decide) encD_len encD_one _ 0 [] rfl (by first | exact World.ownsRow_made _ #[] 0 (Nat.le_refl _) (Nat.zero_le _) rfl) _ (some ⟨b, o, none⟩) _ (l6.take n) _ (by have q1 := L1.out; omega) rfl (T1.out.below (by first | exact (Below.refl _ _).drew | exact ((Below.refl _ wx).alloc (Nat.le_refl _) _).drew | exact (Below.refl _ wx).alloc (Nat.le_refl _) _)) (by have q1 := L1.out; omega) (by decide) (by simp; try omega) ?_; intro v1 w1 ho1 hg1 hv1; have hB1 : Below wx.heap.size wx w1 := Below.grown (by first | exact (Below.refl _ _).drew | exact ((Below.refl _ wx).alloc (Nat.le_refl _) _).drew | exact (Below.refl _ wx).alloc (Nat.le_refl _) _) hg1 (by simp; try omega) (by intro k hk; cases hk; first | exact Nat.le_refl _ | simp); have d1 : w1.cell? ⟨cb, o6, none⟩ = some (.slice (some ⟨b, o, none⟩) m c6) := (hB1.cell (p := ⟨cb, o6, none⟩) hcb).trans bc))
            all_goals
              have hown := own_less (enc := encD) ho2
              have S2 := SETS.out n A9 c9 w2 hB2 hown
              have PT2 := (PT.out.then hB2).set o6 (.slice A9 (less l6 n).length c9)
              rw [less_count]
              generalize (if c6 = n + 1 then (some ⟨b, o, none⟩ : Option Addr) else some ⟨b, o + (n + 1) * 5, none⟩) = rA at *
              generalize w2.setCell ⟨cb, o6, none⟩ (.slice A9 (less l6 n).length c9) = W2 at *
              obtain ⟨q2, hq2⟩ : ∃ q2, q2 = q.setD i2 A9 c9 (less l6 n) := ⟨_, rfl⟩
              rw [← hq2] at S2
              have S2 := Lib.hid S2
              have PT2 := Lib.hid PT2
              clear ho1 hg1 hv1 hB1 d1 ho2 hg2 hv2 hB2 d2 g2 hown hq2 u1 u2 u3 hmod bc fz
              as_aux_lemma =>
                go_wp2_with fail
                go_roundw
                case rel => exact ⟨i2 + 1, q2, by omega, by go_num, S2.out, PT2.out⟩
                case measure => simp [intOf]; omega
        · have i2' : ¬ (i2 : Int) < 2 := by omega
          obtain ⟨hl, c0, c1, c2, c3, c4, c5, c6, c7, c8, c9, c10, c11, c12, c13, c14⟩ := S.out.cells
          have hlen := files_len S.out.may
          by_cases hz : q.files.length = 0
          · rw [hz] at c14
            clear hlen
            go_wp2_with fail
            go_at_call 7
            have MF := MQ.out q _ S.out.old S.out.pk S.out.deep S.out.may
            rw [hz] at MF
            refine MF.mono ?_
            rintro e w9 ⟨rfl, h⟩
            have B9 := S.out.old.trans (h.mono S.out.old.size)
            clear hz hl h MF c0 c1 c2 c3 c4 c5 c6 c7 c8 c9 c10 c11 c12 c13 c14
            go_wp2_with fail
            go_ret
            exact ⟨rfl, B9⟩
          · have bc := c14
            have fz := S.out.box.2.1 14 (by omega)
            have hcb := S.out.box.2.2
            have RW := Lib.hid S.out.laid.files.rd
            clear hl c0 c1 c2 c3 c4 c5 c6 c7 c8 c9 c10 c11 c12 c13 c14
            have SETS := Lib.hid (fun (n : Nat) (A : Option Addr) (c : Nat) (W2 : World) (hb : Below wx.heap.size wx W2) ho => LessAt.setF S.out (W2 := W2) hb (A := A) (c := c) (n := n) ho)
            obtain ⟨l6, hl6⟩ : ∃ l6, l6 = q.files := ⟨_, rfl⟩
            obtain ⟨A6, hA6⟩ : ∃ A6, A6 = q.filesA := ⟨_, rfl⟩
            obtain ⟨c6, hc6⟩ : ∃ c6, c6 = q.filesC := ⟨_, rfl⟩
            rw [← hl6, ← hA6, ← hc6] at RW
            rw [← hl6] at hz hlen SETS
            rw [← hl6, ← hA6, ← hc6] at bc
            have HQ6 := Lib.hid hl6
            have HA6 := Lib.hid hA6
            have HC6 := Lib.hid hc6
            clear hl6 hA6 hc6
            obtain ⟨b, o, hA, hb, _⟩ := RW.out.2.2 0 (by omega)
            subst hA
            obtain ⟨n, hn⟩ : ∃ n, n = km % l6.length := ⟨_, rfl⟩
            have hnl : n < l6.length := by rw [hn]; exact Nat.mod_lt _ (by omega)
            have hmod : (km : Int) % (l6.length : Int) = (n : Int) := by rw [hn]; omega
            have hcl := RW.out.1
            have T1 := Lib.hid (RW.out.take_ n)
            have T2 := Lib.hid (RW.out.drop_ (n := n + 1) (by omega))
            unfold restA at T2
            rw [Nat.mul_one] at T2
            have L1 := Lib.hid (show (l6.take n).length = n by rw [List.length_take]; omega)
            have L2 := Lib.hid (show (l6.drop (n + 1)).length = l6.length - (n + 1) by rw [List.length_drop])
            obtain ⟨m, hm⟩ : ∃ m, m = l6.length := ⟨_, rfl⟩
            rw [← hm] at bc hlen hz hnl hmod hcl
            have HM := Lib.hid hm
            clear hm hn RW
            have j0 : (0 : Int) ≤ (n : Int) := by omega
            have j1 : (n : Int) < (m : Int) := by omega
            have j2 : (0 : Int) < (m : Int) := by omega
            have j3 : (m : Int) ≤ (c6 : Int) := by omega
            have j4 : (n : Int) + 1 ≤ (m : Int) := by omega
            have j5 : (n : Int) ≤ (c6 : Int) := by omega
            have j6 : (n : Int) + 1 ≤ (c6 : Int) := by omega
            go_wp2_with fail
            have u3 : (0 : Int) ≤ (n : Int) + 1 := by omega
            have u1 : IntKind.i64.wrap ((n : Int) + 1) = (n : Int) + 1 := IntWalk.i64_in _ (by omega)
            have u2 : ((n : Int) + 1).toNat = n + 1 := by omega
            go_region_law (first | (refine step_append_rd _ rfl _ _ 26 rfl wx.heap.size 9 _ _ 1 _ (by rfl) (by rfl) (by rfl) (by rfl) (by rfl) (by rfl) (by decide) encT1_len encT1_one v1 _ _ rfl ho1 _ (if c6 = n + 1 then some ⟨b, o, none⟩ else some ⟨b, o + (n + 1), none⟩) _ (l6.drop (n + 1)) _ (by have q1 := L1.out; have q2 := L2.out; have q3 := HM.out; omega) rfl (T2.out.below hB1) (by have q1 := L1.out; have q2 := L2.out; have q3 := HM.out; omega) (by decide) hB1.size ?_; intro v2 w2 ho2 hg2 hv2; have hB2 : Below wx.heap.size wx w2 := hB1.grown hg2 hB1.size (fun k hk => (World.ownsRow.lt ho1 k hk).1); have d2 : w2.cell? ⟨cb, 14, none⟩ = some (.slice (some ⟨b, o, none⟩) m c6) := (hB2.cell (p := ⟨cb, 14, none⟩) hcb).trans bc; have g2 : w2.frozen? ⟨cb, 14, none⟩ = false := (hB2.frozen (p := ⟨cb, 14, none⟩) hcb).trans fz; obtain ⟨A9, c9, rfl⟩ := own_shape ho2) | (refine step_append_rd _ rfl _ _ 26 rfl wx.heap.size 9 _ _ 1 _ (by rfl) (by rfl) (by rfl) (by rfl) (by rfl) (by rfl) (by decide) encT1_len encT1_one _ 0 [] rfl (by first | exact World.ownsRow_made _ #[] 0 (Nat.le_refl _) (Nat.zero_le _) rfl) _ (some ⟨b, o, none⟩) _ (l6.take n) _ (by have q1 := L1.out; omega) rfl (T1.out.below (by first | exact (Below.refl _ _).drew | exact ((Below.refl _ wx).alloc (Nat.le_refl _) _).drew | exact (Below.refl _ wx).alloc (Nat.le_refl _) _)) (by have q1 := L1.out; omega) (by decide) (by simp; try omega) ?_; intro v1 w1 ho1 hg1 hv1; have hB1 : Below wx.heap.size wx w1 := Below.grown (by first | exact (Below.refl _ _).drew | exact ((Below.refl _ wx).alloc (Nat.le_refl _) _).drew | exact (Below.refl _ wx).alloc (Nat.le_refl _) _) hg1 (by simp; try omega) (by intro k hk; cases hk; first | exact Nat.le_refl _ | simp); have d1 : w1.cell? ⟨cb, 14, none⟩ = some (.slice (some ⟨b, o, none⟩) m c6) := (hB1.cell (p := ⟨cb, 14, none⟩) hcb).trans bc))
            all_goals
              have hown := own_less (enc := encT1) ho2
              have S2 := SETS.out n A9 c9 w2 hB2 hown
              rw [less_count]
              generalize (if c6 = n + 1 then (some ⟨b, o, none⟩ : Option Addr) else some ⟨b, o + (n + 1), none⟩) = rA at *
              generalize w2.setCell ⟨cb, 14, none⟩ (.slice A9 (less l6 n).length c9) = W2 at *
              obtain ⟨q2, hq2⟩ : ∃ q2, q2 = { q with filesA := A9, filesC := c9, files := less l6 n } := ⟨_, rfl⟩
              rw [← hq2] at S2
              have S2 := Lib.hid S2
              clear ho1 hg1 hv1 hB1 d1 ho2 hg2 hv2 hB2 d2 g2 hown hq2 u1 u2 u3 hmod bc fz
              as_aux_lemma =>
                obtain ⟨hl, c0, c1, c2, c3, c4, c5, c6, c7, c8, c9, c10, c11, c12, c13, c14⟩ := S2.out.cells
                go_wp2_with fail
                go_at_call 7
                refine (MQ.out q2 _ S2.out.old S2.out.pk S2.out.deep S2.out.may).mono ?_
                rintro e w9 ⟨rfl, h⟩
                have B9 := S2.out.old.trans (h.mono S2.out.old.size)
                clear h hl c0 c1 c2 c3 c4 c5 c6 c7 c8 c9 c10 c11 c12 c13 c14
                go_wp2_with fail
                go_ret
                exact ⟨rfl, B9⟩
end Go.Proofs.YtoglbogfoolkaaaDoor
