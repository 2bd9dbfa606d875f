/- PkCopW -/
import Derived.Test.YteobmfpbgnmffaaGreatDoorPkgCopiesRowG41
import Derived.Test.YteobmfpbgnmffaaGreatDoorPkgCopiesRowG44
import Derived.Test.YteobmfpbgnmffaaGreatDoorPkgCopiesRowG25
import Derived.Test.YteobmfpbgnmffaaGreatDoorPkgCopiesRowG17
set_option linter.unusedSimpArgs false
set_option linter.unusedVariables false
open List (getElem?_toArray getElem?_cons_zero getElem?_cons_succ setIfInBounds_toArray set_cons_zero set_cons_succ take_succ_cons take_zero)
/- PkgCopies, walked. -/




namespace Go.Proofs.YteobmfpbgnmffaaGreatDoor
open Go.RowKit Go.Shelf
set_option linter.unusedVariables false

def pcP (p q C : Pk) (A4 : Option Addr) (k4 : Nat) (l4 : List RV) (sq : Bool) (i : Nat) (v : Value) (W : World) : Prop := match i with
  | 0 => v = .slice A4 l4.length k4
  | 1 => v = (Value.agg #[.string p.name, .int .i64 p.epoch, .string p.ver, .string p.rel, .int .u8 p.arch, .string p.vendor, .slice p.provA p.prov.length p.provC, .slice p.reqA p.req.length p.reqC, .slice p.conA p.con.length p.conC, .slice p.obsA p.obs.length p.obsC, .slice p.rcmA p.rcm.length p.rcmC, .slice p.supA p.sup.length p.supC, .slice p.sugA p.sug.length p.sugC, .slice p.enhA p.enh.length p.enhC, .slice p.filesA p.files.length p.filesC])
  | 2 => ∃ A c l, v = .slice A l.length c ∧ treeL l = allT p ∧ RRow W.heap.size W A c l
  | 3 => v = .bool true
  | 4 => v = .bool false
  | 5 => v = .bool false
  | 6 => v = (Value.agg #[.string p.name, .int .i64 p.epoch, .string p.ver, .string p.rel, .int .u8 p.arch, .string p.vendor, .slice p.provA p.prov.length p.provC, .slice p.reqA p.req.length p.reqC, .slice p.conA p.con.length p.conC, .slice p.obsA p.obs.length p.obsC, .slice p.rcmA p.rcm.length p.rcmC, .slice p.supA p.sup.length p.supC, .slice p.sugA p.sug.length p.sugC, .slice p.enhA p.enh.length p.enhC, .slice p.filesA p.files.length p.filesC])
  | 7 => v = (Value.agg #[.string q.name, .int .i64 q.epoch, .string q.ver, .string q.rel, .int .u8 q.arch, .string q.vendor, .slice q.provA q.prov.length q.provC, .slice q.reqA q.req.length q.reqC, .slice q.conA q.con.length q.conC, .slice q.obsA q.obs.length q.obsC, .slice q.rcmA q.rcm.length q.rcmC, .slice q.supA q.sup.length q.supC, .slice q.sugA q.sug.length q.sugC, .slice q.enhA q.enh.length q.enhC, .slice q.filesA q.files.length q.filesC])
  | 8 => v = .bool sq
  | 9 => v = (Value.agg #[.string p.name, .int .i64 p.epoch, .string p.ver, .string p.rel, .int .u8 p.arch, .string p.vendor, .slice p.provA p.prov.length p.provC, .slice p.reqA p.req.length p.reqC, .slice p.conA p.con.length p.conC, .slice p.obsA p.obs.length p.obsC, .slice p.rcmA p.rcm.length p.rcmC, .slice p.supA p.sup.length p.supC, .slice p.sugA p.sug.length p.sugC, .slice p.enhA p.enh.length p.enhC, .slice p.filesA p.files.length p.filesC])
  | 10 => v = (Value.agg #[.string q.name, .int .i64 q.epoch, .string q.ver, .string q.rel, .int .u8 q.arch, .string q.vendor, .slice q.provA q.prov.length q.provC, .slice q.reqA q.req.length q.reqC, .slice q.conA q.con.length q.conC, .slice q.obsA q.obs.length q.obsC, .slice q.rcmA q.rcm.length q.rcmC, .slice q.supA q.sup.length q.supC, .slice q.sugA q.sug.length q.sugC, .slice q.enhA q.enh.length q.enhC, .slice q.filesA q.files.length q.filesC])
  | 11 => v = .bool sq
  | 12 => v = .bool false
  | 13 => v = .bool false
  | 14 => v = .bool false
  | 15 => v = (Value.agg #[.string p.name, .int .i64 p.epoch, .string p.ver, .string p.rel, .int .u8 p.arch, .string p.vendor, .slice p.provA p.prov.length p.provC, .slice p.reqA p.req.length p.reqC, .slice p.conA p.con.length p.conC, .slice p.obsA p.obs.length p.obsC, .slice p.rcmA p.rcm.length p.rcmC, .slice p.supA p.sup.length p.supC, .slice p.sugA p.sug.length p.sugC, .slice p.enhA p.enh.length p.enhC, .slice p.filesA p.files.length p.filesC])
  | 16 => v = (Value.agg #[.string C.name, .int .i64 C.epoch, .string C.ver, .string C.rel, .int .u8 C.arch, .string C.vendor, .slice C.provA C.prov.length C.provC, .slice C.reqA C.req.length C.reqC, .slice C.conA C.con.length C.conC, .slice C.obsA C.obs.length C.obsC, .slice C.rcmA C.rcm.length C.rcmC, .slice C.supA C.sup.length C.supC, .slice C.sugA C.sug.length C.sugC, .slice C.enhA C.enh.length C.enhC, .slice C.filesA C.files.length C.filesC])
  | 17 => v = .bool true
  | 18 => v = .bool false
  | 19 => v = .bool false
  | 20 => v = .bool false
  | 21 => v = (Value.agg #[.string p.name, .int .i64 p.epoch, .string p.ver, .string p.rel, .int .u8 p.arch, .string p.vendor, .slice p.provA p.prov.length p.provC, .slice p.reqA p.req.length p.reqC, .slice p.conA p.con.length p.conC, .slice p.obsA p.obs.length p.obsC, .slice p.rcmA p.rcm.length p.rcmC, .slice p.supA p.sup.length p.supC, .slice p.sugA p.sug.length p.sugC, .slice p.enhA p.enh.length p.enhC, .slice p.filesA p.files.length p.filesC])
  | 22 => v = (Value.agg #[.string C.name, .int .i64 C.epoch, .string C.ver, .string C.rel, .int .u8 C.arch, .string C.vendor, .slice C.provA C.prov.length C.provC, .slice C.reqA C.req.length C.reqC, .slice C.conA C.con.length C.conC, .slice C.obsA C.obs.length C.obsC, .slice C.rcmA C.rcm.length C.rcmC, .slice C.supA C.sup.length C.supC, .slice C.sugA C.sug.length C.sugC, .slice C.enhA C.enh.length C.enhC, .slice C.filesA C.files.length C.filesC])
  | 23 => v = .bool true
  | 24 => v = .bool false
  | 25 => v = .bool false
  | _ => False
theorem pcP_mono (p q C : Pk) (A4 : Option Addr) (k4 : Nat) (l4 : List RV) (sq : Bool) : ∀ i v w w', pcP p q C A4 k4 l4 sq i v w → Below w.heap.size w w' → pcP p q C A4 k4 l4 sq i v w' := by
  intro i v w w' h hb
  match i, h with
  | 0, h => exact h
  | 1, h => exact h
  | 2, h => obtain ⟨A, c, l, e, ht, hr⟩ := h; exact ⟨A, c, l, e, ht, (hr.below hb).more hb.size⟩
  | 3, h => exact h
  | 4, h => exact h
  | 5, h => exact h
  | 6, h => exact h
  | 7, h => exact h
  | 8, h => exact h
  | 9, h => exact h
  | 10, h => exact h
  | 11, h => exact h
  | 12, h => exact h
  | 13, h => exact h
  | 14, h => exact h
  | 15, h => exact h
  | 16, h => exact h
  | 17, h => exact h
  | 18, h => exact h
  | 19, h => exact h
  | 20, h => exact h
  | 21, h => exact h
  | 22, h => exact h
  | 23, h => exact h
  | 24, h => exact h
  | 25, h => exact h
  | (k + 26), h => exact h.elim
set_option maxRecDepth 100000 in
set_option maxHeartbeats 64000000 in
theorem pkgCopies_row (w : World) (hI : PkIn w) (p : Pk) (hp : p.Laid w.heap.size w) (q : Pk) (hq : q.Laid w.heap.size w) : Calls Tryz.prog 3 #[p.val, q.val] w fun e w' => e = .returned (.bool true) ∧ Below w.heap.size w w' := by
  have LPP := Lib.hid (fun W (h : Below w.heap.size w W) => pklarge2_any p W ((hp.below h).more h.size))
  have LPQ := Lib.hid (fun W (h : Below w.heap.size w W) => pklarge2_any q W ((hq.below h).more h.size))
  have AW := Lib.hid (fun W (h : Below w.heap.size w W) => awake10 W (hI.below h))
  have CP := Lib.hid (fun (hf : p.few) W (h : Below w.heap.size w W) => refcopy_any p W ((hp.below h).more h.size) hf)
  have AL := Lib.hid (fun (hf : p.few) W (h : Below w.heap.size w W) => pkall_any p W ((hp.below h).more h.size) hf)
  have CC := Lib.hid (fun (hf : p.few) W (h : Below w.heap.size w W) => pkcopyf_any p W ((hp.below h).more h.size) hf)
  have RAL := Lib.hid (fun (hf : ∀ i : Fin 6, (sixL p i.val).length ≤ 2000) W (h : Below w.heap.size w W) => r10all_any p W ((hp.below h).more h.size) hf)
  have SMQ := Lib.hid (fun (fp : p.few) (fq : q.few) W (h : Below w.heap.size w W) => pksame_any p q W ((hp.below h).more h.size) ((hq.below h).more h.size) fp fq)
  have RSQ := Lib.hid (fun (fp : p.few) (fq : q.few) W (h : Below w.heap.size w W) => r10same_any p q W ((hp.below h).more h.size) ((hq.below h).more h.size) fp fq)
  have SMC := Lib.hid (fun (c : Pk) (ha : Alike p c) (fp : p.few) W (h : Below w.heap.size w W) (hc : c.Laid W.heap.size W) => (show Calls Tryz.prog 19 #[p.val, c.val] W fun e w' => e = .returned (.bool true) ∧ Below W.heap.size W w' from samePk_alike ha ▸ pksame_any p c W ((hp.below h).more h.size) hc fp (ha.few fp)))
  have RSC := Lib.hid (fun (c : Pk) (ha : Alike p c) (fp : p.few) W (h : Below w.heap.size w W) (hc : c.Laid W.heap.size W) => (show Calls Tryz.prog 20 #[p.val, c.val] W fun e w' => e = .returned (.bool true) ∧ Below W.heap.size W w' from samePk_alike ha ▸ r10same_any p c W ((hp.below h).more h.size) hc fp (ha.few fp)))
  have HP := Lib.hid hp
  have z1 : (w.alloc (.cells #[.string p.name, .int .i64 p.epoch, .string p.ver, .string p.rel, .int .u8 p.arch, .string p.vendor, .slice p.provA p.prov.length p.provC, .slice p.reqA p.req.length p.reqC, .slice p.conA p.con.length p.conC, .slice p.obsA p.obs.length p.obsC, .slice p.rcmA p.rcm.length p.rcmC, .slice p.supA p.sup.length p.supC, .slice p.sugA p.sug.length p.sugC, .slice p.enhA p.enh.length p.enhC, .slice p.filesA p.files.length p.filesC] 28)).heap.size = w.heap.size + 1 := by simp
  obtain ⟨V, hV⟩ : ∃ V, V = (w.alloc (.cells #[.string p.name, .int .i64 p.epoch, .string p.ver, .string p.rel, .int .u8 p.arch, .string p.vendor, .slice p.provA p.prov.length p.provC, .slice p.reqA p.req.length p.reqC, .slice p.conA p.con.length p.conC, .slice p.obsA p.obs.length p.obsC, .slice p.rcmA p.rcm.length p.rcmC, .slice p.supA p.sup.length p.supC, .slice p.sugA p.sug.length p.sugC, .slice p.enhA p.enh.length p.enhC, .slice p.filesA p.files.length p.filesC] 28)).alloc (.cells #[.string q.name, .int .i64 q.epoch, .string q.ver, .string q.rel, .int .u8 q.arch, .string q.vendor, .slice q.provA q.prov.length q.provC, .slice q.reqA q.req.length q.reqC, .slice q.conA q.con.length q.conC, .slice q.obsA q.obs.length q.obsC, .slice q.rcmA q.rcm.length q.rcmC, .slice q.supA q.sup.length q.supC, .slice q.sugA q.sug.length q.sugC, .slice q.enhA q.enh.length q.enhC, .slice q.filesA q.files.length q.filesC] 28) := ⟨_, rfl⟩
  have b2 : Below w.heap.size w V := by rw [hV]; exact ((Below.refl w.heap.size w).alloc (Nat.le_refl _) _).alloc (by rw [z1]; omega) _
  have pA : PkAt V w.heap.size p := by rw [hV]; exact (PkAt.new w p).calls ((Below.refl _ _).alloc (Nat.le_refl _) _)
  have pB : PkAt V (w.heap.size + 1) q := by rw [hV, ← z1]; exact PkAt.new (w.alloc (.cells #[.string p.name, .int .i64 p.epoch, .string p.ver, .string p.rel, .int .u8 p.arch, .string p.vendor, .slice p.provA p.prov.length p.provC, .slice p.reqA p.req.length p.reqC, .slice p.conA p.con.length p.conC, .slice p.obsA p.obs.length p.obsC, .slice p.rcmA p.rcm.length p.rcmC, .slice p.supA p.sup.length p.supC, .slice p.sugA p.sug.length p.sugC, .slice p.enhA p.enh.length p.enhC, .slice p.filesA p.files.length p.filesC] 28)) q
  have B0 := Lib.hid b2
  have BP := Lib.hid pA
  have BQ := Lib.hid pB
  have HV := Lib.hid hV
  clear hI hp hq z1 b2 pA pB hV
  unfold LargePost2 at LPP LPQ
  unfold Pk.val at LPP LPQ CP AL CC RAL SMQ RSQ SMC RSC ⊢
  go_enter Tryz.func3, Tryz.ntmps3
  go_upto_region 1 with fail
  rw [← HV.out]
  clear HV
  obtain ⟨_, c0, c1, c2, c3, c4, c5, c6, c7, c8, c9, c10, c11, c12, c13, c14⟩ := BP.out
  go_wp2_with fail
  go_at_call 12
  refine (LPP.out _ B0.out).mono ?_
  rintro e w1 ⟨r1, rfl, S1, h⟩
  have B1 := Lib.hid (B0.out.trans (h.mono B0.out.size))
  have BP := Lib.hid (BP.out.calls h)
  have BQ := Lib.hid (BQ.out.calls h)
  have S1 := Lib.hid S1
  clear h B0 LPP c0 c1 c2 c3 c4 c5 c6 c7 c8 c9 c10 c11 c12 c13 c14
  cases r1
  rotate_left
  · go_wp2_with fail
    go_at_call 13
    refine (AW.out _ B1.out).mono ?_
    rintro e w9 ⟨rfl, h⟩
    have B9 := B1.out.trans (h.mono B1.out.size)
    go_wp2_with fail
    go_ret
    exact ⟨rfl, B9⟩
  obtain ⟨_, c0, c1, c2, c3, c4, c5, c6, c7, c8, c9, c10, c11, c12, c13, c14⟩ := BQ.out
  go_wp2_with fail
  go_at_call 12
  refine (LPQ.out _ B1.out).mono ?_
  rintro e w2 ⟨r2, rfl, S2, h⟩
  have B2 := Lib.hid (B1.out.trans (h.mono B1.out.size))
  have BP := Lib.hid (BP.out.calls h)
  have BQ := Lib.hid (BQ.out.calls h)
  have S2 := Lib.hid S2
  clear h B1 LPQ c0 c1 c2 c3 c4 c5 c6 c7 c8 c9 c10 c11 c12 c13 c14
  cases r2
  rotate_left
  · go_wp2_with fail
    go_at_call 13
    refine (AW.out _ B2.out).mono ?_
    rintro e w9 ⟨rfl, h⟩
    have B9 := B2.out.trans (h.mono B2.out.size)
    go_wp2_with fail
    go_ret
    exact ⟨rfl, B9⟩
  have FP := Lib.hid (few_of (p := p) (B := 0) (W := w) (S1.out (by trivial)))
  have FQ := Lib.hid (few_of (p := q) (B := 0) (W := w) (S2.out (by trivial)))
  have SP := Lib.hid (S1.out (by trivial)).2
  clear S1 S2
  obtain ⟨_, c0, c1, c2, c3, c4, c5, c6, c7, c8, c9, c10, c11, c12, c13, c14⟩ := BP.out
  go_wp2_with fail
  go_at_call 14
  refine (CP.out FP.out _ B2.out).mono ?_
  rintro e w3 ⟨K, rfl, hK, oK, h⟩
  have B3 := Lib.hid (B2.out.trans (h.mono B2.out.size))
  have BP := Lib.hid (BP.out.calls h)
  have BQ := Lib.hid (BQ.out.calls h)
  have HK := Lib.hid hK
  have KL := Lib.hid (oK.laid hK HP.out)
  clear h hK oK B2 CP c0 c1 c2 c3 c4 c5 c6 c7 c8 c9 c10 c11 c12 c13 c14
  obtain ⟨_, c0, c1, c2, c3, c4, c5, c6, c7, c8, c9, c10, c11, c12, c13, c14⟩ := BP.out
  go_upto_region 4 with fail
  have h : Below w3.heap.size w3 (w3.alloc (.cells #[.string K.name, .int .i64 K.epoch, .string K.ver, .string K.rel, .int .u8 K.arch, .string K.vendor, .slice K.provA K.prov.length K.provC, .slice K.reqA K.req.length K.reqC, .slice K.conA K.con.length K.conC, .slice K.obsA K.obs.length K.obsC, .slice K.rcmA K.rcm.length K.rcmC, .slice K.supA K.sup.length K.supC, .slice K.sugA K.sug.length K.sugC, .slice K.enhA K.enh.length K.enhC, .slice K.filesA K.files.length K.filesC] 28)) := (Below.refl _ _).alloc (Nat.le_refl _) _
  have BK := Lib.hid (PkAt.new w3 K)
  have B4 := Lib.hid (B3.out.trans (h.mono B3.out.size))
  have BP := Lib.hid (BP.out.calls h)
  have BQ := Lib.hid (BQ.out.calls h)
  have KBL := Lib.hid (BK.out.1)
  have B4S := Lib.hid (show w.heap.size ≤ (w3.alloc (.cells #[.string K.name, .int .i64 K.epoch, .string K.ver, .string K.rel, .int .u8 K.arch, .string K.vendor, .slice K.provA K.prov.length K.provC, .slice K.reqA K.req.length K.reqC, .slice K.conA K.con.length K.conC, .slice K.obsA K.obs.length K.obsC, .slice K.rcmA K.rcm.length K.rcmC, .slice K.supA K.sup.length K.supC, .slice K.sugA K.sug.length K.sugC, .slice K.enhA K.enh.length K.enhC, .slice K.filesA K.files.length K.filesC] 28)).heap.size from B4.out.size)
  have PB0 := Lib.hid (BP.out.1)
  have KL4 := Lib.hid ((KL.out.below h).more h.size)
  clear KL h B3 c0 c1 c2 c3 c4 c5 c6 c7 c8 c9 c10 c11 c12 c13 c14
  generalize w3.alloc (.cells #[.string K.name, .int .i64 K.epoch, .string K.ver, .string K.rel, .int .u8 K.arch, .string K.vendor, .slice K.provA K.prov.length K.provC, .slice K.reqA K.req.length K.reqC, .slice K.conA K.con.length K.conC, .slice K.obsA K.obs.length K.obsC, .slice K.rcmA K.rcm.length K.rcmC, .slice K.supA K.sup.length K.supC, .slice K.sugA K.sug.length K.sugC, .slice K.enhA K.enh.length K.enhC, .slice K.filesA K.files.length K.filesC] 28) = V3 at *
  generalize w3.heap.size = kb at *
  obtain ⟨_, c0, c1, c2, c3, c4, c5, c6, c7, c8, c9, c10, c11, c12, c13, c14⟩ := BP.out
  go_wp2_with fail
  go_at_call 15
  refine (AL.out FP.out _ B4.out).mono ?_
  rintro e w4 ⟨A4, k4, l4, rfl, ht4, o4, h⟩
  have B34 := Lib.hid h
  have B5 := Lib.hid (B4.out.trans (h.mono B4.out.size))
  have BP := Lib.hid (BP.out.calls h)
  have BQ := Lib.hid (BQ.out.calls h)
  have BK := Lib.hid (BK.out.calls h)
  have T4 := Lib.hid ht4
  have O4 := Lib.hid o4
  clear h ht4 o4 AL c0 c1 c2 c3 c4 c5 c6 c7 c8 c9 c10 c11 c12 c13 c14
  obtain ⟨_, c0, c1, c2, c3, c4, c5, c6, c7, c8, c9, c10, c11, c12, c13, c14⟩ := BP.out
  go_wp2_with fail
  go_at_call 16
  refine (CC.out FP.out _ B5.out).mono ?_
  rintro e w5 ⟨C, rfl, hC, oC, h⟩
  have B35 := Lib.hid (B34.out.trans (h.mono B34.out.size))
  have B6 := Lib.hid (B5.out.trans (h.mono B5.out.size))
  have BP := Lib.hid (BP.out.calls h)
  have BQ := Lib.hid (BQ.out.calls h)
  have BK := Lib.hid (BK.out.calls h)
  have HC := Lib.hid hC
  have OC := Lib.hid oC
  have WB := Lib.hid (show V3.heap.size ≤ w4.heap.size from B34.out.size)
  have O4 := Lib.hid (O4.out.butR (R := kb) (.of h) KBL.out)
  clear h hC oC CC B34 B5 c0 c1 c2 c3 c4 c5 c6 c7 c8 c9 c10 c11 c12 c13 c14
  obtain ⟨_, c0, c1, c2, c3, c4, c5, c6, c7, c8, c9, c10, c11, c12, c13, c14⟩ := BP.out
  go_upto_region 6 with fail
  have h : Below w5.heap.size w5 (w5.alloc (.cells #[.string C.name, .int .i64 C.epoch, .string C.ver, .string C.rel, .int .u8 C.arch, .string C.vendor, .slice C.provA C.prov.length C.provC, .slice C.reqA C.req.length C.reqC, .slice C.conA C.con.length C.conC, .slice C.obsA C.obs.length C.obsC, .slice C.rcmA C.rcm.length C.rcmC, .slice C.supA C.sup.length C.supC, .slice C.sugA C.sug.length C.sugC, .slice C.enhA C.enh.length C.enhC, .slice C.filesA C.files.length C.filesC] 28)) := (Below.refl _ _).alloc (Nat.le_refl _) _
  have BC := Lib.hid (PkAt.new w5 C)
  have B36 := Lib.hid (B35.out.trans (h.mono B35.out.size))
  have B7 := Lib.hid (B6.out.trans (h.mono B6.out.size))
  have BP := Lib.hid (BP.out.calls h)
  have BQ := Lib.hid (BQ.out.calls h)
  have BK := Lib.hid (BK.out.calls h)
  have O4 := Lib.hid (O4.out.butR (R := kb) (.of h) KBL.out)
  have OC := Lib.hid (OC.out.butR (R := kb) (.of h) (Nat.lt_of_lt_of_le KBL.out WB.out))
  clear h B6 B35 c0 c1 c2 c3 c4 c5 c6 c7 c8 c9 c10 c11 c12 c13 c14
  generalize w5.alloc (.cells #[.string C.name, .int .i64 C.epoch, .string C.ver, .string C.rel, .int .u8 C.arch, .string C.vendor, .slice C.provA C.prov.length C.provC, .slice C.reqA C.req.length C.reqC, .slice C.conA C.con.length C.conC, .slice C.obsA C.obs.length C.obsC, .slice C.rcmA C.rcm.length C.rcmC, .slice C.supA C.sup.length C.supC, .slice C.sugA C.sug.length C.sugC, .slice C.enhA C.enh.length C.enhC, .slice C.filesA C.files.length C.filesC] 28) = V5 at *
  generalize w5.heap.size = cb at *
  have CL5 := Lib.hid (OC.out.own.laid HC.out HP.out)
  have R4 := Lib.hid O4.out.row
  have PT := Lib.hid (allT_parts SP.out)
  have N4 := Lib.hid (show l4.length ≤ 12000 from by have h1 := partsL_len (treeL l4); rw [treeL_len, T4.out] at h1; have := PT.out; omega)
  obtain ⟨sq, hsq⟩ : ∃ r, r = samePk p q := ⟨_, rfl⟩
  rw [← hsq] at SMQ RSQ
  clear hsq
  refine wp_region_vals (PP := pcP p q C A4 k4 l4 sq) rfl (by kernel_rfl) (by decide) (pcP_mono p q C A4 k4 l4 sq) (fun _ => undef) (by simp [fillV, put_someT, setIfInBounds_toArray, set_cons_zero, set_cons_succ]) ?_ ?_
  · intro i o vs W hi ho he hBW K hK
    simp only [fillV, put_someT, setIfInBounds_toArray, set_cons_zero, set_cons_succ] at hK ⊢
    have BWW := Lib.hid (B7.out.trans (hBW.mono B7.out.size))
    have BPW := Lib.hid (BP.out.calls hBW)
    have BQW := Lib.hid (BQ.out.calls hBW)
    have BCW := Lib.hid (BC.out.calls hBW)
    have CLW := Lib.hid ((CL5.out.below hBW).more hBW.size)
    have R4W := Lib.hid ((RRow.below R4.out hBW).more hBW.size)
    obtain rfl | rfl | rfl | rfl | rfl | rfl | rfl | rfl | rfl | rfl | rfl | rfl | rfl | rfl | rfl | rfl | rfl | rfl | rfl | rfl | rfl | rfl | rfl | rfl | rfl | rfl := (show i = 0 ∨ i = 1 ∨ i = 2 ∨ i = 3 ∨ i = 4 ∨ i = 5 ∨ i = 6 ∨ i = 7 ∨ i = 8 ∨ i = 9 ∨ i = 10 ∨ i = 11 ∨ i = 12 ∨ i = 13 ∨ i = 14 ∨ i = 15 ∨ i = 16 ∨ i = 17 ∨ i = 18 ∨ i = 19 ∨ i = 20 ∨ i = 21 ∨ i = 22 ∨ i = 23 ∨ i = 24 ∨ i = 25 by exact (by have : i < 26 := hi; omega))
    · as_aux_lemma =>
        simp only [getElem?_toArray, getElem?_cons_zero, getElem?_cons_succ, Option.some.injEq] at ho
        subst ho
        rw [if_pos (by rfl)]
        simp only [put_someT, setIfInBounds_toArray, set_cons_zero, set_cons_succ] at hK
        have HK := Lib.hid hK
        clear hK he hi hBW
        go_simp
        exact HK.out _ _ (by first | rfl | simp [pcP]) (Below.refl _ _)
    · as_aux_lemma =>
        simp only [getElem?_toArray, getElem?_cons_zero, getElem?_cons_succ, Option.some.injEq] at ho
        subst ho
        rw [if_pos (by rfl)]
        simp only [put_someT, setIfInBounds_toArray, set_cons_zero, set_cons_succ] at hK
        have HK := Lib.hid hK
        clear hK he hi hBW
        obtain ⟨_, c0, c1, c2, c3, c4, c5, c6, c7, c8, c9, c10, c11, c12, c13, c14⟩ := BPW.out
        go_simp
        exact HK.out _ _ rfl (Below.refl _ _)
    · as_aux_lemma =>
        simp only [getElem?_toArray, getElem?_cons_zero, getElem?_cons_succ, Option.some.injEq] at ho
        subst ho
        have e1 : vs 1 = (Value.agg #[.string p.name, .int .i64 p.epoch, .string p.ver, .string p.rel, .int .u8 p.arch, .string p.vendor, .slice p.provA p.prov.length p.provC, .slice p.reqA p.req.length p.reqC, .slice p.conA p.con.length p.conC, .slice p.obsA p.obs.length p.obsC, .slice p.rcmA p.rcm.length p.rcmC, .slice p.supA p.sup.length p.supC, .slice p.sugA p.sug.length p.sugC, .slice p.enhA p.enh.length p.enhC, .slice p.filesA p.files.length p.filesC]) := (he ⟨1, .data⟩ (by simp) rfl : pcP p q C A4 k4 l4 sq 1 (vs 1) W)
        rw [e1] at hK ⊢
        rw [if_pos (by rfl)]
        simp only [put_someT, setIfInBounds_toArray, set_cons_zero, set_cons_succ] at hK
        have HK := Lib.hid hK
        clear hK he hi hBW
        have SQ := RAL.out (six_small SP.out) W BWW.out
        go_simp
        go_at_call 18
        refine SQ.mono ?_
        rintro en w9 ⟨A, c, l, rfl, ht, hr, h⟩
        go_simp
        exact HK.out _ _ ⟨A, c, l, rfl, ht, hr⟩ h
    · as_aux_lemma =>
        simp only [getElem?_toArray, getElem?_cons_zero, getElem?_cons_succ, Option.some.injEq] at ho
        subst ho
        have e0 : vs 0 = .slice A4 l4.length k4 := (he ⟨0, .data⟩ (by simp) rfl : pcP p q C A4 k4 l4 sq 0 (vs 0) W)
        rw [e0] at hK ⊢
        obtain ⟨A2, k2, l9, e2, ht2, hr2⟩ := (he ⟨2, .data⟩ (by simp) rfl : pcP p q C A4 k4 l4 sq 2 (vs 2) W)
        rw [e2] at hK ⊢
        rw [if_pos (by rfl)]
        simp only [put_someT, setIfInBounds_toArray, set_cons_zero, set_cons_succ] at hK
        have HK := Lib.hid hK
        clear hK he hi hBW
        have SQ := r10riches_same A4 A2 k4 k2 l4 l9 W (by have := N4.out; omega) (by have h1 := partsL_len (treeL l9); rw [treeL_len, ht2] at h1; have := PT.out; omega) R4W.out hr2
        rw [T4.out, ht2, (sameL_iff _ _).2 rfl] at SQ
        have SQ := Lib.hid SQ
        clear hr2 ht2
        go_simp
        go_at_call 17
        refine SQ.out.mono ?_
        rintro en w9 ⟨rfl, h⟩
        go_simp
        exact HK.out _ _ rfl h
    · as_aux_lemma =>
        simp only [getElem?_toArray, getElem?_cons_zero, getElem?_cons_succ, Option.some.injEq] at ho
        subst ho
        have e3 : vs 3 = .bool true := (he ⟨3, .data⟩ (by simp) rfl : pcP p q C A4 k4 l4 sq 3 (vs 3) W)
        rw [e3] at hK ⊢
        rw [if_pos (by rfl)]
        simp only [put_someT, setIfInBounds_toArray, set_cons_zero, set_cons_succ] at hK
        have HK := Lib.hid hK
        clear hK he hi hBW
        go_simp
        exact HK.out _ _ (by first | rfl | simp [pcP]) (Below.refl _ _)
    · as_aux_lemma =>
        simp only [getElem?_toArray, getElem?_cons_zero, getElem?_cons_succ, Option.some.injEq] at ho
        subst ho
        have e4 : vs 4 = .bool false := (he ⟨4, .data⟩ (by simp) rfl : pcP p q C A4 k4 l4 sq 4 (vs 4) W)
        rw [e4] at hK ⊢
        rw [if_pos (by rfl)]
        simp only [put_someT, setIfInBounds_toArray, set_cons_zero, set_cons_succ] at hK
        have HK := Lib.hid hK
        clear hK he hi hBW
        go_simp
        exact HK.out _ _ (by first | rfl | simp [pcP]) (Below.refl _ _)
    · as_aux_lemma =>
        simp only [getElem?_toArray, getElem?_cons_zero, getElem?_cons_succ, Option.some.injEq] at ho
        subst ho
        have e5 : vs 5 = .bool false := (he ⟨5, .guard⟩ (by simp) rfl : pcP p q C A4 k4 l4 sq 5 (vs 5) W)
        rw [e5] at hK ⊢
        rw [if_pos (by rfl)]
        simp only [put_someT, setIfInBounds_toArray, set_cons_zero, set_cons_succ] at hK
        have HK := Lib.hid hK
        clear hK he hi hBW
        obtain ⟨_, c0, c1, c2, c3, c4, c5, c6, c7, c8, c9, c10, c11, c12, c13, c14⟩ := BPW.out
        go_simp
        exact HK.out _ _ rfl (Below.refl _ _)
    · as_aux_lemma =>
        simp only [getElem?_toArray, getElem?_cons_zero, getElem?_cons_succ, Option.some.injEq] at ho
        subst ho
        have e5 : vs 5 = .bool false := (he ⟨5, .guard⟩ (by simp) rfl : pcP p q C A4 k4 l4 sq 5 (vs 5) W)
        rw [e5] at hK ⊢
        rw [if_pos (by rfl)]
        simp only [put_someT, setIfInBounds_toArray, set_cons_zero, set_cons_succ] at hK
        have HK := Lib.hid hK
        clear hK he hi hBW
        obtain ⟨_, c0, c1, c2, c3, c4, c5, c6, c7, c8, c9, c10, c11, c12, c13, c14⟩ := BQW.out
        go_simp
        exact HK.out _ _ rfl (Below.refl _ _)
    · as_aux_lemma =>
        simp only [getElem?_toArray, getElem?_cons_zero, getElem?_cons_succ, Option.some.injEq] at ho
        subst ho
        have e6 : vs 6 = (Value.agg #[.string p.name, .int .i64 p.epoch, .string p.ver, .string p.rel, .int .u8 p.arch, .string p.vendor, .slice p.provA p.prov.length p.provC, .slice p.reqA p.req.length p.reqC, .slice p.conA p.con.length p.conC, .slice p.obsA p.obs.length p.obsC, .slice p.rcmA p.rcm.length p.rcmC, .slice p.supA p.sup.length p.supC, .slice p.sugA p.sug.length p.sugC, .slice p.enhA p.enh.length p.enhC, .slice p.filesA p.files.length p.filesC]) := (he ⟨6, .data⟩ (by simp) rfl : pcP p q C A4 k4 l4 sq 6 (vs 6) W)
        rw [e6] at hK ⊢
        have e7 : vs 7 = (Value.agg #[.string q.name, .int .i64 q.epoch, .string q.ver, .string q.rel, .int .u8 q.arch, .string q.vendor, .slice q.provA q.prov.length q.provC, .slice q.reqA q.req.length q.reqC, .slice q.conA q.con.length q.conC, .slice q.obsA q.obs.length q.obsC, .slice q.rcmA q.rcm.length q.rcmC, .slice q.supA q.sup.length q.supC, .slice q.sugA q.sug.length q.sugC, .slice q.enhA q.enh.length q.enhC, .slice q.filesA q.files.length q.filesC]) := (he ⟨7, .data⟩ (by simp) rfl : pcP p q C A4 k4 l4 sq 7 (vs 7) W)
        rw [e7] at hK ⊢
        have e5 : vs 5 = .bool false := (he ⟨5, .guard⟩ (by simp) rfl : pcP p q C A4 k4 l4 sq 5 (vs 5) W)
        rw [e5] at hK ⊢
        rw [if_pos (by rfl)]
        simp only [put_someT, setIfInBounds_toArray, set_cons_zero, set_cons_succ] at hK
        have HK := Lib.hid hK
        clear hK he hi hBW
        have SQ := SMQ.out FP.out FQ.out W BWW.out
        go_simp
        go_at_call 19
        refine SQ.mono ?_
        rintro en w9 ⟨rfl, h⟩
        go_simp
        exact HK.out _ _ rfl h
    · as_aux_lemma =>
        simp only [getElem?_toArray, getElem?_cons_zero, getElem?_cons_succ, Option.some.injEq] at ho
        subst ho
        have e5 : vs 5 = .bool false := (he ⟨5, .guard⟩ (by simp) rfl : pcP p q C A4 k4 l4 sq 5 (vs 5) W)
        rw [e5] at hK ⊢
        rw [if_pos (by rfl)]
        simp only [put_someT, setIfInBounds_toArray, set_cons_zero, set_cons_succ] at hK
        have HK := Lib.hid hK
        clear hK he hi hBW
        obtain ⟨_, c0, c1, c2, c3, c4, c5, c6, c7, c8, c9, c10, c11, c12, c13, c14⟩ := BPW.out
        go_simp
        exact HK.out _ _ rfl (Below.refl _ _)
    · as_aux_lemma =>
        simp only [getElem?_toArray, getElem?_cons_zero, getElem?_cons_succ, Option.some.injEq] at ho
        subst ho
        have e5 : vs 5 = .bool false := (he ⟨5, .guard⟩ (by simp) rfl : pcP p q C A4 k4 l4 sq 5 (vs 5) W)
        rw [e5] at hK ⊢
        rw [if_pos (by rfl)]
        simp only [put_someT, setIfInBounds_toArray, set_cons_zero, set_cons_succ] at hK
        have HK := Lib.hid hK
        clear hK he hi hBW
        obtain ⟨_, c0, c1, c2, c3, c4, c5, c6, c7, c8, c9, c10, c11, c12, c13, c14⟩ := BQW.out
        go_simp
        exact HK.out _ _ rfl (Below.refl _ _)
    · as_aux_lemma =>
        simp only [getElem?_toArray, getElem?_cons_zero, getElem?_cons_succ, Option.some.injEq] at ho
        subst ho
        have e9 : vs 9 = (Value.agg #[.string p.name, .int .i64 p.epoch, .string p.ver, .string p.rel, .int .u8 p.arch, .string p.vendor, .slice p.provA p.prov.length p.provC, .slice p.reqA p.req.length p.reqC, .slice p.conA p.con.length p.conC, .slice p.obsA p.obs.length p.obsC, .slice p.rcmA p.rcm.length p.rcmC, .slice p.supA p.sup.length p.supC, .slice p.sugA p.sug.length p.sugC, .slice p.enhA p.enh.length p.enhC, .slice p.filesA p.files.length p.filesC]) := (he ⟨9, .data⟩ (by simp) rfl : pcP p q C A4 k4 l4 sq 9 (vs 9) W)
        rw [e9] at hK ⊢
        have e10 : vs 10 = (Value.agg #[.string q.name, .int .i64 q.epoch, .string q.ver, .string q.rel, .int .u8 q.arch, .string q.vendor, .slice q.provA q.prov.length q.provC, .slice q.reqA q.req.length q.reqC, .slice q.conA q.con.length q.conC, .slice q.obsA q.obs.length q.obsC, .slice q.rcmA q.rcm.length q.rcmC, .slice q.supA q.sup.length q.supC, .slice q.sugA q.sug.length q.sugC, .slice q.enhA q.enh.length q.enhC, .slice q.filesA q.files.length q.filesC]) := (he ⟨10, .data⟩ (by simp) rfl : pcP p q C A4 k4 l4 sq 10 (vs 10) W)
        rw [e10] at hK ⊢
        have e5 : vs 5 = .bool false := (he ⟨5, .guard⟩ (by simp) rfl : pcP p q C A4 k4 l4 sq 5 (vs 5) W)
        rw [e5] at hK ⊢
        rw [if_pos (by rfl)]
        simp only [put_someT, setIfInBounds_toArray, set_cons_zero, set_cons_succ] at hK
        have HK := Lib.hid hK
        clear hK he hi hBW
        have SQ := RSQ.out FP.out FQ.out W BWW.out
        go_simp
        go_at_call 20
        refine SQ.mono ?_
        rintro en w9 ⟨rfl, h⟩
        go_simp
        exact HK.out _ _ rfl h
    · as_aux_lemma =>
        simp only [getElem?_toArray, getElem?_cons_zero, getElem?_cons_succ, Option.some.injEq] at ho
        subst ho
        have e8 : vs 8 = .bool sq := (he ⟨8, .data⟩ (by simp) rfl : pcP p q C A4 k4 l4 sq 8 (vs 8) W)
        rw [e8] at hK ⊢
        have e11 : vs 11 = .bool sq := (he ⟨11, .data⟩ (by simp) rfl : pcP p q C A4 k4 l4 sq 11 (vs 11) W)
        rw [e11] at hK ⊢
        have e5 : vs 5 = .bool false := (he ⟨5, .guard⟩ (by simp) rfl : pcP p q C A4 k4 l4 sq 5 (vs 5) W)
        rw [e5] at hK ⊢
        rw [if_pos (by rfl)]
        simp only [put_someT, setIfInBounds_toArray, set_cons_zero, set_cons_succ] at hK
        have HK := Lib.hid hK
        clear hK he hi hBW
        cases sq
        · go_simp; exact HK.out _ _ rfl (Below.refl _ _)
        · go_simp; exact HK.out _ _ rfl (Below.refl _ _)
    · as_aux_lemma =>
        simp only [getElem?_toArray, getElem?_cons_zero, getElem?_cons_succ, Option.some.injEq] at ho
        subst ho
        have e5 : vs 5 = .bool false := (he ⟨5, .data⟩ (by simp) rfl : pcP p q C A4 k4 l4 sq 5 (vs 5) W)
        rw [e5] at hK ⊢
        have e12 : vs 12 = .bool false := (he ⟨12, .data⟩ (by simp) rfl : pcP p q C A4 k4 l4 sq 12 (vs 12) W)
        rw [e12] at hK ⊢
        rw [if_pos (by rfl)]
        simp only [put_someT, setIfInBounds_toArray, set_cons_zero, set_cons_succ] at hK
        have HK := Lib.hid hK
        clear hK he hi hBW
        go_simp
        exact HK.out _ _ (by first | rfl | simp [pcP]) (Below.refl _ _)
    · as_aux_lemma =>
        simp only [getElem?_toArray, getElem?_cons_zero, getElem?_cons_succ, Option.some.injEq] at ho
        subst ho
        have e13 : vs 13 = .bool false := (he ⟨13, .data⟩ (by simp) rfl : pcP p q C A4 k4 l4 sq 13 (vs 13) W)
        rw [e13] at hK ⊢
        rw [if_pos (by rfl)]
        simp only [put_someT, setIfInBounds_toArray, set_cons_zero, set_cons_succ] at hK
        have HK := Lib.hid hK
        clear hK he hi hBW
        go_simp
        exact HK.out _ _ (by first | rfl | simp [pcP]) (Below.refl _ _)
    · as_aux_lemma =>
        simp only [getElem?_toArray, getElem?_cons_zero, getElem?_cons_succ, Option.some.injEq] at ho
        subst ho
        have e14 : vs 14 = .bool false := (he ⟨14, .guard⟩ (by simp) rfl : pcP p q C A4 k4 l4 sq 14 (vs 14) W)
        rw [e14] at hK ⊢
        rw [if_pos (by rfl)]
        simp only [put_someT, setIfInBounds_toArray, set_cons_zero, set_cons_succ] at hK
        have HK := Lib.hid hK
        clear hK he hi hBW
        obtain ⟨_, c0, c1, c2, c3, c4, c5, c6, c7, c8, c9, c10, c11, c12, c13, c14⟩ := BPW.out
        go_simp
        exact HK.out _ _ rfl (Below.refl _ _)
    · as_aux_lemma =>
        simp only [getElem?_toArray, getElem?_cons_zero, getElem?_cons_succ, Option.some.injEq] at ho
        subst ho
        have e14 : vs 14 = .bool false := (he ⟨14, .guard⟩ (by simp) rfl : pcP p q C A4 k4 l4 sq 14 (vs 14) W)
        rw [e14] at hK ⊢
        rw [if_pos (by rfl)]
        simp only [put_someT, setIfInBounds_toArray, set_cons_zero, set_cons_succ] at hK
        have HK := Lib.hid hK
        clear hK he hi hBW
        obtain ⟨_, c0, c1, c2, c3, c4, c5, c6, c7, c8, c9, c10, c11, c12, c13, c14⟩ := BCW.out
        go_simp
        exact HK.out _ _ rfl (Below.refl _ _)
    · as_aux_lemma =>
        simp only [getElem?_toArray, getElem?_cons_zero, getElem?_cons_succ, Option.some.injEq] at ho
        subst ho
        have e15 : vs 15 = (Value.agg #[.string p.name, .int .i64 p.epoch, .string p.ver, .string p.rel, .int .u8 p.arch, .string p.vendor, .slice p.provA p.prov.length p.provC, .slice p.reqA p.req.length p.reqC, .slice p.conA p.con.length p.conC, .slice p.obsA p.obs.length p.obsC, .slice p.rcmA p.rcm.length p.rcmC, .slice p.supA p.sup.length p.supC, .slice p.sugA p.sug.length p.sugC, .slice p.enhA p.enh.length p.enhC, .slice p.filesA p.files.length p.filesC]) := (he ⟨15, .data⟩ (by simp) rfl : pcP p q C A4 k4 l4 sq 15 (vs 15) W)
        rw [e15] at hK ⊢
        have e16 : vs 16 = (Value.agg #[.string C.name, .int .i64 C.epoch, .string C.ver, .string C.rel, .int .u8 C.arch, .string C.vendor, .slice C.provA C.prov.length C.provC, .slice C.reqA C.req.length C.reqC, .slice C.conA C.con.length C.conC, .slice C.obsA C.obs.length C.obsC, .slice C.rcmA C.rcm.length C.rcmC, .slice C.supA C.sup.length C.supC, .slice C.sugA C.sug.length C.sugC, .slice C.enhA C.enh.length C.enhC, .slice C.filesA C.files.length C.filesC]) := (he ⟨16, .data⟩ (by simp) rfl : pcP p q C A4 k4 l4 sq 16 (vs 16) W)
        rw [e16] at hK ⊢
        have e14 : vs 14 = .bool false := (he ⟨14, .guard⟩ (by simp) rfl : pcP p q C A4 k4 l4 sq 14 (vs 14) W)
        rw [e14] at hK ⊢
        rw [if_pos (by rfl)]
        simp only [put_someT, setIfInBounds_toArray, set_cons_zero, set_cons_succ] at hK
        have HK := Lib.hid hK
        clear hK he hi hBW
        have SQ := SMC.out C HC.out FP.out W BWW.out CLW.out
        go_simp
        go_at_call 19
        refine SQ.mono ?_
        rintro en w9 ⟨rfl, h⟩
        go_simp
        exact HK.out _ _ rfl h
    · as_aux_lemma =>
        simp only [getElem?_toArray, getElem?_cons_zero, getElem?_cons_succ, Option.some.injEq] at ho
        subst ho
        have e17 : vs 17 = .bool true := (he ⟨17, .data⟩ (by simp) rfl : pcP p q C A4 k4 l4 sq 17 (vs 17) W)
        rw [e17] at hK ⊢
        have e14 : vs 14 = .bool false := (he ⟨14, .guard⟩ (by simp) rfl : pcP p q C A4 k4 l4 sq 14 (vs 14) W)
        rw [e14] at hK ⊢
        rw [if_pos (by rfl)]
        simp only [put_someT, setIfInBounds_toArray, set_cons_zero, set_cons_succ] at hK
        have HK := Lib.hid hK
        clear hK he hi hBW
        go_simp
        exact HK.out _ _ (by first | rfl | simp [pcP]) (Below.refl _ _)
    · as_aux_lemma =>
        simp only [getElem?_toArray, getElem?_cons_zero, getElem?_cons_succ, Option.some.injEq] at ho
        subst ho
        have e14 : vs 14 = .bool false := (he ⟨14, .data⟩ (by simp) rfl : pcP p q C A4 k4 l4 sq 14 (vs 14) W)
        rw [e14] at hK ⊢
        have e18 : vs 18 = .bool false := (he ⟨18, .data⟩ (by simp) rfl : pcP p q C A4 k4 l4 sq 18 (vs 18) W)
        rw [e18] at hK ⊢
        rw [if_pos (by rfl)]
        simp only [put_someT, setIfInBounds_toArray, set_cons_zero, set_cons_succ] at hK
        have HK := Lib.hid hK
        clear hK he hi hBW
        go_simp
        exact HK.out _ _ (by first | rfl | simp [pcP]) (Below.refl _ _)
    · as_aux_lemma =>
        simp only [getElem?_toArray, getElem?_cons_zero, getElem?_cons_succ, Option.some.injEq] at ho
        subst ho
        have e19 : vs 19 = .bool false := (he ⟨19, .data⟩ (by simp) rfl : pcP p q C A4 k4 l4 sq 19 (vs 19) W)
        rw [e19] at hK ⊢
        rw [if_pos (by rfl)]
        simp only [put_someT, setIfInBounds_toArray, set_cons_zero, set_cons_succ] at hK
        have HK := Lib.hid hK
        clear hK he hi hBW
        go_simp
        exact HK.out _ _ (by first | rfl | simp [pcP]) (Below.refl _ _)
    · as_aux_lemma =>
        simp only [getElem?_toArray, getElem?_cons_zero, getElem?_cons_succ, Option.some.injEq] at ho
        subst ho
        have e20 : vs 20 = .bool false := (he ⟨20, .guard⟩ (by simp) rfl : pcP p q C A4 k4 l4 sq 20 (vs 20) W)
        rw [e20] at hK ⊢
        rw [if_pos (by rfl)]
        simp only [put_someT, setIfInBounds_toArray, set_cons_zero, set_cons_succ] at hK
        have HK := Lib.hid hK
        clear hK he hi hBW
        obtain ⟨_, c0, c1, c2, c3, c4, c5, c6, c7, c8, c9, c10, c11, c12, c13, c14⟩ := BPW.out
        go_simp
        exact HK.out _ _ rfl (Below.refl _ _)
    · as_aux_lemma =>
        simp only [getElem?_toArray, getElem?_cons_zero, getElem?_cons_succ, Option.some.injEq] at ho
        subst ho
        have e20 : vs 20 = .bool false := (he ⟨20, .guard⟩ (by simp) rfl : pcP p q C A4 k4 l4 sq 20 (vs 20) W)
        rw [e20] at hK ⊢
        rw [if_pos (by rfl)]
        simp only [put_someT, setIfInBounds_toArray, set_cons_zero, set_cons_succ] at hK
        have HK := Lib.hid hK
        clear hK he hi hBW
        obtain ⟨_, c0, c1, c2, c3, c4, c5, c6, c7, c8, c9, c10, c11, c12, c13, c14⟩ := BCW.out
        go_simp
        exact HK.out _ _ rfl (Below.refl _ _)
    · as_aux_lemma =>
        simp only [getElem?_toArray, getElem?_cons_zero, getElem?_cons_succ, Option.some.injEq] at ho
        subst ho
        have e21 : vs 21 = (Value.agg #[.string p.name, .int .i64 p.epoch, .string p.ver, .string p.rel, .int .u8 p.arch, .string p.vendor, .slice p.provA p.prov.length p.provC, .slice p.reqA p.req.length p.reqC, .slice p.conA p.con.length p.conC, .slice p.obsA p.obs.length p.obsC, .slice p.rcmA p.rcm.length p.rcmC, .slice p.supA p.sup.length p.supC, .slice p.sugA p.sug.length p.sugC, .slice p.enhA p.enh.length p.enhC, .slice p.filesA p.files.length p.filesC]) := (he ⟨21, .data⟩ (by simp) rfl : pcP p q C A4 k4 l4 sq 21 (vs 21) W)
        rw [e21] at hK ⊢
        have e22 : vs 22 = (Value.agg #[.string C.name, .int .i64 C.epoch, .string C.ver, .string C.rel, .int .u8 C.arch, .string C.vendor, .slice C.provA C.prov.length C.provC, .slice C.reqA C.req.length C.reqC, .slice C.conA C.con.length C.conC, .slice C.obsA C.obs.length C.obsC, .slice C.rcmA C.rcm.length C.rcmC, .slice C.supA C.sup.length C.supC, .slice C.sugA C.sug.length C.sugC, .slice C.enhA C.enh.length C.enhC, .slice C.filesA C.files.length C.filesC]) := (he ⟨22, .data⟩ (by simp) rfl : pcP p q C A4 k4 l4 sq 22 (vs 22) W)
        rw [e22] at hK ⊢
        have e20 : vs 20 = .bool false := (he ⟨20, .guard⟩ (by simp) rfl : pcP p q C A4 k4 l4 sq 20 (vs 20) W)
        rw [e20] at hK ⊢
        rw [if_pos (by rfl)]
        simp only [put_someT, setIfInBounds_toArray, set_cons_zero, set_cons_succ] at hK
        have HK := Lib.hid hK
        clear hK he hi hBW
        have SQ := RSC.out C HC.out FP.out W BWW.out CLW.out
        go_simp
        go_at_call 20
        refine SQ.mono ?_
        rintro en w9 ⟨rfl, h⟩
        go_simp
        exact HK.out _ _ rfl h
    · as_aux_lemma =>
        simp only [getElem?_toArray, getElem?_cons_zero, getElem?_cons_succ, Option.some.injEq] at ho
        subst ho
        have e23 : vs 23 = .bool true := (he ⟨23, .data⟩ (by simp) rfl : pcP p q C A4 k4 l4 sq 23 (vs 23) W)
        rw [e23] at hK ⊢
        have e20 : vs 20 = .bool false := (he ⟨20, .guard⟩ (by simp) rfl : pcP p q C A4 k4 l4 sq 20 (vs 20) W)
        rw [e20] at hK ⊢
        rw [if_pos (by rfl)]
        simp only [put_someT, setIfInBounds_toArray, set_cons_zero, set_cons_succ] at hK
        have HK := Lib.hid hK
        clear hK he hi hBW
        go_simp
        exact HK.out _ _ (by first | rfl | simp [pcP]) (Below.refl _ _)
    · as_aux_lemma =>
        simp only [getElem?_toArray, getElem?_cons_zero, getElem?_cons_succ, Option.some.injEq] at ho
        subst ho
        have e20 : vs 20 = .bool false := (he ⟨20, .data⟩ (by simp) rfl : pcP p q C A4 k4 l4 sq 20 (vs 20) W)
        rw [e20] at hK ⊢
        have e24 : vs 24 = .bool false := (he ⟨24, .data⟩ (by simp) rfl : pcP p q C A4 k4 l4 sq 24 (vs 24) W)
        rw [e24] at hK ⊢
        rw [if_pos (by rfl)]
        simp only [put_someT, setIfInBounds_toArray, set_cons_zero, set_cons_succ] at hK
        have HK := Lib.hid hK
        clear hK he hi hBW
        go_simp
        exact HK.out _ _ (by first | rfl | simp [pcP]) (Below.refl _ _)
  intro vs W hall hBW
  have q25 : vs 25 = .bool false := hall 25 (by decide)
  have q0 : vs 0 = .slice A4 l4.length k4 := hall 0 (by decide)
  simp only [fillV, put_someT, setIfInBounds_toArray, set_cons_zero, set_cons_succ]
  rw [q25]
  generalize vs 0 = y0
  generalize vs 1 = y1
  generalize vs 2 = y2
  generalize vs 3 = y3
  generalize vs 4 = y4
  generalize vs 5 = y5
  generalize vs 6 = y6
  generalize vs 7 = y7
  generalize vs 8 = y8
  generalize vs 9 = y9
  generalize vs 10 = y10
  generalize vs 11 = y11
  generalize vs 12 = y12
  generalize vs 13 = y13
  generalize vs 14 = y14
  generalize vs 15 = y15
  generalize vs 16 = y16
  generalize vs 17 = y17
  generalize vs 18 = y18
  generalize vs 19 = y19
  generalize vs 20 = y20
  generalize vs 21 = y21
  generalize vs 22 = y22
  generalize vs 23 = y23
  generalize vs 24 = y24
  have B8 := Lib.hid (B7.out.trans (hBW.mono B7.out.size))
  have B38 := Lib.hid (B36.out.trans (hBW.mono B36.out.size))
  have BP := Lib.hid (BP.out.calls hBW)
  have BK := Lib.hid (BK.out.calls hBW)
  have BC := Lib.hid (BC.out.calls hBW)
  have O4 := Lib.hid (O4.out.butR (R := kb) (.of hBW) KBL.out)
  have OC := Lib.hid (OC.out.butR (R := kb) (.of hBW) (Nat.lt_of_lt_of_le KBL.out WB.out))
  clear hall hBW q25 q0 B7 B36 SMQ RSQ SMC RAL R4 CL5 BQ
  go_upto_region 8 with fail
  obtain ⟨_, c0, c1, c2, c3, c4, c5, c6, c7, c8, c9, c10, c11, c12, c13, c14⟩ := BC.out
  go_upto_region 9 with fail
  have h : Below W.heap.size W (W.alloc (.cells #[.slice A4 l4.length k4, .slice C.reqA C.req.length C.reqC, .slice C.conA C.con.length C.conC, .slice C.rcmA C.rcm.length C.rcmC, .slice C.supA C.sup.length C.supC, .slice C.sugA C.sug.length C.sugC, .slice C.enhA C.enh.length C.enhC] 25)) := (Below.refl _ _).alloc (Nat.le_refl _) _
  have RS : ∀ j, j < 7 → ∃ A n c, (W.alloc (.cells #[.slice A4 l4.length k4, .slice C.reqA C.req.length C.reqC, .slice C.conA C.con.length C.conC, .slice C.rcmA C.rcm.length C.rcmC, .slice C.supA C.sup.length C.supC, .slice C.sugA C.sug.length C.sugC, .slice C.enhA C.enh.length C.enhC] 25)).cell? ⟨W.heap.size, j, none⟩ = some (.slice A n c) ∧ WRow V3.heap.size (W.alloc (.cells #[.slice A4 l4.length k4, .slice C.reqA C.req.length C.reqC, .slice C.conA C.con.length C.conC, .slice C.rcmA C.rcm.length C.rcmC, .slice C.supA C.sup.length C.supC, .slice C.sugA C.sug.length C.sugC, .slice C.enhA C.enh.length C.enhC] 25)) A n := by
    have o4 := O4.out.butR (R := kb) (.of h) KBL.out
    have oc := OC.out.butR (R := kb) (.of h) (Nat.lt_of_lt_of_le KBL.out WB.out)
    have pe := fun (x : List RV) (hx : partsL (treeL x) ≤ 12000) => (show x.length ≤ 1000000 ∧ ∀ t ∈ x, t.tree.parts ≤ 900000 from ⟨by have := (parts_each hx).1; omega, fun t ht => by have := (parts_each hx).2 t ht; omega⟩)
    have sc := alike_parts HC.out SP.out
    have e4 := pe l4 (by rw [T4.out]; exact PT.out)
    have ereq := pe C.req (Nat.le_trans (show partsL (treeL C.req) ≤ 2000 from sc 0 (by omega)) (by omega))
    have econ := pe C.con (Nat.le_trans (show partsL (treeL C.con) ≤ 2000 from sc 1 (by omega)) (by omega))
    have ercm := pe C.rcm (Nat.le_trans (show partsL (treeL C.rcm) ≤ 2000 from sc 2 (by omega)) (by omega))
    have esup := pe C.sup (Nat.le_trans (show partsL (treeL C.sup) ≤ 2000 from sc 3 (by omega)) (by omega))
    have esug := pe C.sug (Nat.le_trans (show partsL (treeL C.sug) ≤ 2000 from sc 4 (by omega)) (by omega))
    have eenh := pe C.enh (Nat.le_trans (show partsL (treeL C.enh) ≤ 2000 from sc 5 (by omega)) (by omega))
    intro j hj
    obtain rfl | rfl | rfl | rfl | rfl | rfl | rfl : j = 0 ∨ j = 1 ∨ j = 2 ∨ j = 3 ∨ j = 4 ∨ j = 5 ∨ j = 6 := by omega
    · exact ⟨_, _, _, (World.cell?_alloc_at _ _ _ _ rfl).trans rfl, WRow.of o4 (Nat.le_refl _) e4.2 e4.1⟩
    · exact ⟨_, _, _, (World.cell?_alloc_at _ _ _ _ rfl).trans rfl, WRow.of oc.req WB.out ereq.2 ereq.1⟩
    · exact ⟨_, _, _, (World.cell?_alloc_at _ _ _ _ rfl).trans rfl, WRow.of oc.con WB.out econ.2 econ.1⟩
    · exact ⟨_, _, _, (World.cell?_alloc_at _ _ _ _ rfl).trans rfl, WRow.of oc.rcm WB.out ercm.2 ercm.1⟩
    · exact ⟨_, _, _, (World.cell?_alloc_at _ _ _ _ rfl).trans rfl, WRow.of oc.sup WB.out esup.2 esup.1⟩
    · exact ⟨_, _, _, (World.cell?_alloc_at _ _ _ _ rfl).trans rfl, WRow.of oc.sug WB.out esug.2 esug.1⟩
    · exact ⟨_, _, _, (World.cell?_alloc_at _ _ _ _ rfl).trans rfl, WRow.of oc.enh WB.out eenh.2 eenh.1⟩
  have WS : WStr V3.heap.size (W.alloc (.cells #[.slice A4 l4.length k4, .slice C.reqA C.req.length C.reqC, .slice C.conA C.con.length C.conC, .slice C.rcmA C.rcm.length C.rcmC, .slice C.supA C.sup.length C.supC, .slice C.sugA C.sug.length C.sugC, .slice C.enhA C.enh.length C.enhC] 25)) 5 C.provA C.prov.length ∧ WStr V3.heap.size (W.alloc (.cells #[.slice A4 l4.length k4, .slice C.reqA C.req.length C.reqC, .slice C.conA C.con.length C.conC, .slice C.rcmA C.rcm.length C.rcmC, .slice C.supA C.sup.length C.supC, .slice C.sugA C.sug.length C.sugC, .slice C.enhA C.enh.length C.enhC] 25)) 1 C.filesA C.files.length ∧ WStr V3.heap.size (W.alloc (.cells #[.slice A4 l4.length k4, .slice C.reqA C.req.length C.reqC, .slice C.conA C.con.length C.conC, .slice C.rcmA C.rcm.length C.rcmC, .slice C.supA C.sup.length C.supC, .slice C.sugA C.sug.length C.sugC, .slice C.enhA C.enh.length C.enhC] 25)) 5 C.obsA C.obs.length := by
    have oc := OC.out.butR (R := kb) (.of h) (Nat.lt_of_lt_of_le KBL.out WB.out)
    have fc := HC.out.few FP.out
    exact ⟨WStr.of oc.prov encD_len (fun x => ⟨_, rfl⟩) WB.out fc.nprov, WStr.of oc.files encT1_len (fun x => ⟨_, rfl⟩) WB.out fc.nfiles, WStr.of oc.obs encD_len (fun x => ⟨_, rfl⟩) WB.out fc.nobs⟩
  have B9 := Lib.hid (B8.out.trans (h.mono B8.out.size))
  have B39 := Lib.hid (B38.out.trans (h.mono B38.out.size))
  have BP := Lib.hid (BP.out.calls h)
  have BK := Lib.hid (BK.out.calls h)
  have BC := Lib.hid (BC.out.calls h)
  have RSH := Lib.hid RS
  have WSH := Lib.hid WS
  have PBL := Lib.hid PB0.out
  clear h RS WS B8 B38 O4 OC HC SP T4 PT N4 WB c0 c1 c2 c3 c4 c5 c6 c7 c8 c9 c10 c11 c12 c13 c14
  generalize W.alloc (.cells #[.slice A4 l4.length k4, .slice C.reqA C.req.length C.reqC, .slice C.conA C.con.length C.conC, .slice C.rcmA C.rcm.length C.rcmC, .slice C.supA C.sup.length C.supC, .slice C.sugA C.sug.length C.sugC, .slice C.enhA C.enh.length C.enhC] 25) = W1 at *
  generalize W.heap.size = gb at *
  go_loopw [69] (fun jv wr => ∃ j : Nat, j ≤ 7 ∧ jv = .int .i64 (j : Int) ∧ KD V3.heap.size W1 wr) (fun jv _ => 7 - (intOf jv).toNat)
  case atStart => exact ⟨0, by omega, rfl, KD.refl _ _⟩
  case round =>
    obtain ⟨j, hj, rfl, hk⟩ := hrel
    rename World => wr
    have KH := Lib.hid hk
    clear hk
    as_aux_lemma =>
    by_cases hlt : j < 7
    · obtain ⟨A, n, c, hc, hn, hw⟩ := RSH.out j hlt
      have hcw := KH.out.hd _ _ _ _ hc
      have HW := Lib.hid hw
      have j0 : (0 : Int) ≤ (j : Int) := by omega
      have j1 : (j : Int) < 7 := by omega
      clear hc hw
      go_wp2_with fail
      go_loopw [10] (fun iv wr => ∃ i : Nat, i ≤ n ∧ iv = .int .i64 (i : Int) ∧ KD V3.heap.size W1 wr) (fun iv _ => n - (intOf iv).toNat)
      case atStart => exact ⟨0, Nat.zero_le _, rfl, KH.out⟩
      case round =>
        obtain ⟨i, hi, rfl, hk⟩ := hrel
        rename World => wi
        have KI := Lib.hid hk
        clear hk hcw
        by_cases hlti : i < n
        · obtain ⟨b, o, rfl, hb, fz, ⟨x, hx⟩, a, m, k2, ha, hm, hw2⟩ := HW.out i hlti
          have HA := Lib.hid ha
          have HW2 := Lib.hid hw2
          have FZ0 := Lib.hid fz
          have HX := Lib.hid hx
          have i0 : (0 : Int) ≤ (i : Int) := by omega
          have i1 : (i : Int) < (n : Int) := by omega
          clear ha hw2 fz hx
          go_wp2_with fail
          go_loopw [11] (fun kv wr => ∃ k : Nat, k ≤ m ∧ kv = .int .i64 (k : Int) ∧ KD V3.heap.size W1 wr) (fun kv _ => m - (intOf kv).toNat)
          case atStart => exact ⟨0, Nat.zero_le _, rfl, KI.out⟩
          case round =>
            obtain ⟨k, hkk, rfl, hk⟩ := hrel
            rename World => wk
            have KK := Lib.hid hk
            have hak := hk.hd _ _ _ _ HA.out
            clear hk
            by_cases hltk : k < m
            · obtain ⟨b', o', rfl, hb', fz', x', hx'⟩ := HW2.out k hltk
              obtain ⟨y, hy⟩ := KK.out.u8 _ _ hx'
              have fy := (KK.out.fz ⟨b', o' + k * 7, none⟩).trans fz'
              have KS := Lib.hid (KK.out.setU8 hb' hy 99)
              have k0 : (0 : Int) ≤ (k : Int) := by omega
              have k1 : (k : Int) < (m : Int) := by omega
              clear hx' fz'
              go_wp2_with fail
              go_roundw
              case rel => exact ⟨k + 1, by omega, by go_num, KS.out⟩
              case measure => simp [intOf]; omega
            · obtain rfl : k = m := by omega
              have k1 : ¬ (k : Int) < (k : Int) := by omega
              obtain ⟨y, hy⟩ := KK.out.u8 _ _ HX.out
              have fy := (KK.out.fz ⟨b, o + i * 7, none⟩).trans FZ0.out
              have KS := Lib.hid (KK.out.setU8 hb hy 77)
              clear hltk
              go_wp2_with fail
              go_roundw
              case rel => exact ⟨i + 1, by omega, by go_num, KS.out⟩
              case measure => simp [intOf]; omega
        · obtain rfl : i = n := by omega
          have i1 : ¬ (i : Int) < (i : Int) := by omega
          clear hlti
          go_wp2_with fail
          go_roundw
          case rel => exact ⟨j + 1, by omega, by go_num, KI.out⟩
          case measure => simp [intOf]; omega
    · obtain rfl : j = 7 := by omega
      have j1 : ¬ (7 : Int) < 7 := by omega
      clear hlt
      obtain ⟨_, c0, c1, c2, c3, c4, c5, c6, c7, c8, c9, c10, c11, c12, c13, c14⟩ := BC.out
      have hcn := KH.out.hd _ _ _ _ c6
      have HC12 := Lib.hid c6
      clear c0 c1 c2 c3 c4 c5 c6 c7 c8 c9 c10 c11 c12 c13 c14
      go_wp2_with fail
      clear hcn
      go_loopw [12] (fun iv wr => ∃ i : Nat, i ≤ C.prov.length ∧ iv = .int .i64 (i : Int) ∧ KD V3.heap.size W1 wr) (fun iv _ => C.prov.length - (intOf iv).toNat)
      case atStart => exact ⟨0, Nat.zero_le _, rfl, KH.out⟩
      case round =>
        obtain ⟨i, hi, rfl, hk⟩ := hrel
        rename World => wa
        have K12 := Lib.hid hk
        have hcw := hk.hd _ _ _ _ HC12.out
        clear hk
        have hln := WSH.out.1.1
        by_cases hlti : i < C.prov.length
        · obtain ⟨b, o, e9, hb, fz, x, hx⟩ := WSH.out.1.2 i hlti
          rw [e9] at hcw
          obtain ⟨y, hy⟩ := K12.out.st _ _ hx
          have fy := (K12.out.fz ⟨b, o + i * 5, none⟩).trans fz
          have KS := Lib.hid (K12.out.setStr hb hy ⟨#[63]⟩)
          have i0 : (0 : Int) ≤ (i : Int) := by omega
          have i1 : (i : Int) < (C.prov.length : Int) := by omega
          clear hx fz e9
          go_wp2_with fail
          go_roundw
          case rel => exact ⟨i + 1, by omega, by go_num, KS.out⟩
          case measure => simp [intOf]; omega
        · obtain rfl : i = C.prov.length := by omega
          have i1 : ¬ (C.prov.length : Int) < (C.prov.length : Int) := by omega
          clear hlti
          obtain ⟨_, c0, c1, c2, c3, c4, c5, c6, c7, c8, c9, c10, c11, c12, c13, c14⟩ := BC.out
          have hcn := K12.out.hd _ _ _ _ c14
          have HC13 := Lib.hid c14
          clear c0 c1 c2 c3 c4 c5 c6 c7 c8 c9 c10 c11 c12 c13 c14
          go_wp2_with fail
          clear hcn
          go_loopw [13] (fun iv wr => ∃ i : Nat, i ≤ C.files.length ∧ iv = .int .i64 (i : Int) ∧ KD V3.heap.size W1 wr) (fun iv _ => C.files.length - (intOf iv).toNat)
          case atStart => exact ⟨0, Nat.zero_le _, rfl, K12.out⟩
          case round =>
            obtain ⟨i, hi, rfl, hk⟩ := hrel
            rename World => wb
            have K13 := Lib.hid hk
            have hcw := hk.hd _ _ _ _ HC13.out
            clear hk
            have hln := WSH.out.2.1.1
            by_cases hlti : i < C.files.length
            · obtain ⟨b, o, e9, hb, fz, x, hx⟩ := WSH.out.2.1.2 i hlti
              rw [e9] at hcw
              obtain ⟨y, hy⟩ := K13.out.st _ _ hx
              have fy := (K13.out.fz ⟨b, o + i * 1, none⟩).trans fz
              have KS := Lib.hid (K13.out.setStr hb hy ⟨#[63]⟩)
              have i0 : (0 : Int) ≤ (i : Int) := by omega
              have i1 : (i : Int) < (C.files.length : Int) := by omega
              clear hx fz e9
              rw [Nat.mul_one] at hy fy KS
              go_wp2_with fail
              go_roundw
              case rel => exact ⟨i + 1, by omega, by go_num, KS.out⟩
              case measure => simp [intOf]; omega
            · obtain rfl : i = C.files.length := by omega
              have i1 : ¬ (C.files.length : Int) < (C.files.length : Int) := by omega
              clear hlti
              obtain ⟨_, c0, c1, c2, c3, c4, c5, c6, c7, c8, c9, c10, c11, c12, c13, c14⟩ := BC.out
              have hcn := K13.out.hd _ _ _ _ c9
              have HC14 := Lib.hid c9
              clear c0 c1 c2 c3 c4 c5 c6 c7 c8 c9 c10 c11 c12 c13 c14
              go_wp2_with fail
              clear hcn
              go_loopw [14] (fun iv wr => ∃ i : Nat, i ≤ C.obs.length ∧ iv = .int .i64 (i : Int) ∧ KD V3.heap.size W1 wr) (fun iv _ => C.obs.length - (intOf iv).toNat)
              case atStart => exact ⟨0, Nat.zero_le _, rfl, K13.out⟩
              case round =>
                obtain ⟨i, hi, rfl, hk⟩ := hrel
                rename World => wc
                have K14 := Lib.hid hk
                have hcw := hk.hd _ _ _ _ HC14.out
                clear hk
                have hln := WSH.out.2.2.1
                by_cases hlti : i < C.obs.length
                · obtain ⟨b, o, e9, hb, fz, x, hx⟩ := WSH.out.2.2.2 i hlti
                  rw [e9] at hcw
                  obtain ⟨y, hy⟩ := K14.out.st _ _ hx
                  have fy := (K14.out.fz ⟨b, o + i * 5, none⟩).trans fz
                  have KS := Lib.hid (K14.out.setStr hb hy ⟨#[63]⟩)
                  have i0 : (0 : Int) ≤ (i : Int) := by omega
                  have i1 : (i : Int) < (C.obs.length : Int) := by omega
                  clear hx fz e9
                  go_wp2_with fail
                  go_roundw
                  case rel => exact ⟨i + 1, by omega, by go_num, KS.out⟩
                  case measure => simp [intOf]; omega
                · obtain rfl : i = C.obs.length := by omega
                  have i1 : ¬ (C.obs.length : Int) < (C.obs.length : Int) := by omega
                  clear hlti
                  have BE := Lib.hid (B9.out.trans (K14.out.low.mono B4S.out))
                  have KE := Lib.hid ((KL4.out.below (B39.out.trans K14.out.low)).more (B39.out.trans K14.out.low).size)
                  obtain ⟨_, a0, a1, a2, a3, a4, a5, a6, a7, a8, a9, a10, a11, a12, a13, a14⟩ := kp_atA BP.out (kp_pastA PBL.out K14.out.low)
                  obtain ⟨_, d0, d1, d2, d3, d4, d5, d6, d7, d8, d9, d10, d11, d12, d13, d14⟩ := kp_atA BK.out (kp_pastA KBL.out K14.out.low)
                  have SQ := Lib.hid (RSC.out K HK.out FP.out _ BE.out KE.out)
                  go_wp2_with fail
                  go_at_call 20
                  refine SQ.out.mono ?_
                  rintro e w9 ⟨rfl, h⟩
                  have BF := Lib.hid (BE.out.trans (h.mono BE.out.size))
                  clear h SQ a0 a1 a2 a3 a4 a5 a6 a7 a8 a9 a10 a11 a12 a13 a14 d0 d1 d2 d3 d4 d5 d6 d7 d8 d9 d10 d11 d12 d13 d14
                  go_wp2_with fail
                  go_at_call 13
                  refine (AW.out _ BF.out).mono ?_
                  rintro e w10 ⟨rfl, h⟩
                  have BG := BF.out.trans (h.mono BF.out.size)
                  go_wp2_with fail
                  go_ret
                  exact ⟨rfl, BG⟩
end Go.Proofs.YteobmfpbgnmffaaGreatDoor
