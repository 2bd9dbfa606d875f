/- R10Same -/
import Derived.Test.YteobmfpbgnmffaaGreatDoorPkgCopiesRowG38
set_option linter.unusedSimpArgs false
set_option linter.unusedVariables false
/- Walk: are two packages the same (chandleryref10.Same). -/

namespace Go.Proofs.YteobmfpbgnmffaaGreatDoor
open Go.RowKit Go.Shelf
set_option linter.unusedVariables false

set_option maxRecDepth 100000 in
set_option maxHeartbeats 16000000 in
theorem r10same_any (p q : Pk) (w : World) (hp : p.Laid w.heap.size w) (hq : q.Laid w.heap.size w) (fp : p.few) (fq : q.few) : Calls Tryz.prog 20 #[p.val, q.val] w fun e w' => e = .returned (.bool (samePk p q)) ∧ Below w.heap.size w w' := by
  have E0 := Lib.hid (fun W (h : Below w.heap.size w W) => r10same_deps p.provA q.provA p.provC q.provC p.prov q.prov W (by have := fp.nprov; omega) (by have := fq.nprov; omega) ((hp.prov.below h).more h.size) ((hq.prov.below h).more h.size))
  have E1 := Lib.hid (fun W (h : Below w.heap.size w W) => r10riches_same p.reqA q.reqA p.reqC q.reqC p.req q.req W (by have := (parts_each fp.req).1; omega) (by have := (parts_each fq.req).1; omega) ((RRow.below hp.req h).more h.size) ((RRow.below hq.req h).more h.size))
  have E2 := Lib.hid (fun W (h : Below w.heap.size w W) => r10riches_same p.conA q.conA p.conC q.conC p.con q.con W (by have := (parts_each fp.con).1; omega) (by have := (parts_each fq.con).1; omega) ((RRow.below hp.con h).more h.size) ((RRow.below hq.con h).more h.size))
  have E3 := Lib.hid (fun W (h : Below w.heap.size w W) => r10same_deps p.obsA q.obsA p.obsC q.obsC p.obs q.obs W (by have := fp.nobs; omega) (by have := fq.nobs; omega) ((hp.obs.below h).more h.size) ((hq.obs.below h).more h.size))
  have E4 := Lib.hid (fun W (h : Below w.heap.size w W) => r10riches_same p.rcmA q.rcmA p.rcmC q.rcmC p.rcm q.rcm W (by have := (parts_each fp.rcm).1; omega) (by have := (parts_each fq.rcm).1; omega) ((RRow.below hp.rcm h).more h.size) ((RRow.below hq.rcm h).more h.size))
  have E5 := Lib.hid (fun W (h : Below w.heap.size w W) => r10riches_same p.supA q.supA p.supC q.supC p.sup q.sup W (by have := (parts_each fp.sup).1; omega) (by have := (parts_each fq.sup).1; omega) ((RRow.below hp.sup h).more h.size) ((RRow.below hq.sup h).more h.size))
  have E6 := Lib.hid (fun W (h : Below w.heap.size w W) => r10riches_same p.sugA q.sugA p.sugC q.sugC p.sug q.sug W (by have := (parts_each fp.sug).1; omega) (by have := (parts_each fq.sug).1; omega) ((RRow.below hp.sug h).more h.size) ((RRow.below hq.sug h).more h.size))
  have E7 := Lib.hid (fun W (h : Below w.heap.size w W) => r10riches_same p.enhA q.enhA p.enhC q.enhC p.enh q.enh W (by have := (parts_each fp.enh).1; omega) (by have := (parts_each fq.enh).1; omega) ((RRow.below hp.enh h).more h.size) ((RRow.below hq.enh h).more h.size))
  have E8 := Lib.hid (fun W (h : Below w.heap.size w W) => textsR06_any p.filesA q.filesA p.filesC q.filesC p.files q.files W (by have := fp.nfiles; omega) (by have := fq.nfiles; omega) (TR.of_rd ((hp.files.below h).more h.size)) (TR.of_rd ((hq.files.below h).more h.size)))
  obtain ⟨r0, h0⟩ : ∃ r, r = sameDL p.prov q.prov := ⟨_, rfl⟩
  obtain ⟨r1, h1⟩ : ∃ r, r = sameL (treeL p.req) (treeL q.req) := ⟨_, rfl⟩
  obtain ⟨r2, h2⟩ : ∃ r, r = sameL (treeL p.con) (treeL q.con) := ⟨_, rfl⟩
  obtain ⟨r3, h3⟩ : ∃ r, r = sameDL p.obs q.obs := ⟨_, rfl⟩
  obtain ⟨r4, h4⟩ : ∃ r, r = sameL (treeL p.rcm) (treeL q.rcm) := ⟨_, rfl⟩
  obtain ⟨r5, h5⟩ : ∃ r, r = sameL (treeL p.sup) (treeL q.sup) := ⟨_, rfl⟩
  obtain ⟨r6, h6⟩ : ∃ r, r = sameL (treeL p.sug) (treeL q.sug) := ⟨_, rfl⟩
  obtain ⟨r7, h7⟩ : ∃ r, r = sameL (treeL p.enh) (treeL q.enh) := ⟨_, rfl⟩
  obtain ⟨r8, h8⟩ : ∃ r, r = decide (p.files = q.files) := ⟨_, rfl⟩
  have HR := Lib.hid (show samePk p q = (decide (p.name.toList = q.name.toList) && (decide (p.epoch = q.epoch) && (decide (p.ver.toList = q.ver.toList) && (decide (p.rel.toList = q.rel.toList) && (decide (p.arch = q.arch) && (decide (p.vendor.toList = q.vendor.toList) && (r0 && (r3 && (r8 && (r1 && (r2 && (r4 && (r5 && (r6 && r7)))))))))))))) by rw [h0, h1, h2, h3, h4, h5, h6, h7, h8]; rfl)
  rw [← h0] at E0
  rw [← h1] at E1
  rw [← h2] at E2
  rw [← h3] at E3
  rw [← h4] at E4
  rw [← h5] at E5
  rw [← h6] at E6
  rw [← h7] at E7
  rw [← h8] at E8
  have z1 : (w.alloc (.cells #[.string p.name, .int .i64 p.epoch, .string p.ver, .string p.rel, .int .u8 p.arch, .string p.vendor, .slice p.provA p.prov.length p.provC, .slice p.reqA p.req.length p.reqC, .slice p.conA p.con.length p.conC, .slice p.obsA p.obs.length p.obsC, .slice p.rcmA p.rcm.length p.rcmC, .slice p.supA p.sup.length p.supC, .slice p.sugA p.sug.length p.sugC, .slice p.enhA p.enh.length p.enhC, .slice p.filesA p.files.length p.filesC] 28)).heap.size = w.heap.size + 1 := by simp
  have b2 := ((Below.refl w.heap.size w).alloc (Nat.le_refl _) (.cells #[.string p.name, .int .i64 p.epoch, .string p.ver, .string p.rel, .int .u8 p.arch, .string p.vendor, .slice p.provA p.prov.length p.provC, .slice p.reqA p.req.length p.reqC, .slice p.conA p.con.length p.conC, .slice p.obsA p.obs.length p.obsC, .slice p.rcmA p.rcm.length p.rcmC, .slice p.supA p.sup.length p.supC, .slice p.sugA p.sug.length p.sugC, .slice p.enhA p.enh.length p.enhC, .slice p.filesA p.files.length p.filesC] 28)).alloc (by rw [z1]; omega) (.cells #[.string q.name, .int .i64 q.epoch, .string q.ver, .string q.rel, .int .u8 q.arch, .string q.vendor, .slice q.provA q.prov.length q.provC, .slice q.reqA q.req.length q.reqC, .slice q.conA q.con.length q.conC, .slice q.obsA q.obs.length q.obsC, .slice q.rcmA q.rcm.length q.rcmC, .slice q.supA q.sup.length q.supC, .slice q.sugA q.sug.length q.sugC, .slice q.enhA q.enh.length q.enhC, .slice q.filesA q.files.length q.filesC] 28)
  obtain ⟨V, hV⟩ : ∃ V, V = (w.alloc (.cells #[.string p.name, .int .i64 p.epoch, .string p.ver, .string p.rel, .int .u8 p.arch, .string p.vendor, .slice p.provA p.prov.length p.provC, .slice p.reqA p.req.length p.reqC, .slice p.conA p.con.length p.conC, .slice p.obsA p.obs.length p.obsC, .slice p.rcmA p.rcm.length p.rcmC, .slice p.supA p.sup.length p.supC, .slice p.sugA p.sug.length p.sugC, .slice p.enhA p.enh.length p.enhC, .slice p.filesA p.files.length p.filesC] 28)).alloc (.cells #[.string q.name, .int .i64 q.epoch, .string q.ver, .string q.rel, .int .u8 q.arch, .string q.vendor, .slice q.provA q.prov.length q.provC, .slice q.reqA q.req.length q.reqC, .slice q.conA q.con.length q.conC, .slice q.obsA q.obs.length q.obsC, .slice q.rcmA q.rcm.length q.rcmC, .slice q.supA q.sup.length q.supC, .slice q.sugA q.sug.length q.sugC, .slice q.enhA q.enh.length q.enhC, .slice q.filesA q.files.length q.filesC] 28) := ⟨_, rfl⟩
  have pA : PkAt V w.heap.size p := by rw [hV]; exact (PkAt.new w p).calls ((Below.refl _ _).alloc (Nat.le_refl _) _)
  have pB : PkAt V (w.heap.size + 1) q := by rw [hV, ← z1]; exact PkAt.new (w.alloc (.cells #[.string p.name, .int .i64 p.epoch, .string p.ver, .string p.rel, .int .u8 p.arch, .string p.vendor, .slice p.provA p.prov.length p.provC, .slice p.reqA p.req.length p.reqC, .slice p.conA p.con.length p.conC, .slice p.obsA p.obs.length p.obsC, .slice p.rcmA p.rcm.length p.rcmC, .slice p.supA p.sup.length p.supC, .slice p.sugA p.sug.length p.sugC, .slice p.enhA p.enh.length p.enhC, .slice p.filesA p.files.length p.filesC] 28)) q
  rw [← hV] at b2
  have PA := Lib.hid (fun W (h : Below V.heap.size V W) => (show W.cell? ⟨w.heap.size, 0, none⟩ = some (.string p.name) ∧ W.cell? ⟨w.heap.size, 1, none⟩ = some (.int .i64 p.epoch) ∧ W.cell? ⟨w.heap.size, 2, none⟩ = some (.string p.ver) ∧ W.cell? ⟨w.heap.size, 3, none⟩ = some (.string p.rel) ∧ W.cell? ⟨w.heap.size, 4, none⟩ = some (.int .u8 p.arch) ∧ W.cell? ⟨w.heap.size, 5, none⟩ = some (.string p.vendor) ∧ W.cell? ⟨w.heap.size, 6, none⟩ = some (.slice p.provA p.prov.length p.provC) ∧ W.cell? ⟨w.heap.size, 7, none⟩ = some (.slice p.reqA p.req.length p.reqC) ∧ W.cell? ⟨w.heap.size, 8, none⟩ = some (.slice p.conA p.con.length p.conC) ∧ W.cell? ⟨w.heap.size, 9, none⟩ = some (.slice p.obsA p.obs.length p.obsC) ∧ W.cell? ⟨w.heap.size, 10, none⟩ = some (.slice p.rcmA p.rcm.length p.rcmC) ∧ W.cell? ⟨w.heap.size, 11, none⟩ = some (.slice p.supA p.sup.length p.supC) ∧ W.cell? ⟨w.heap.size, 12, none⟩ = some (.slice p.sugA p.sug.length p.sugC) ∧ W.cell? ⟨w.heap.size, 13, none⟩ = some (.slice p.enhA p.enh.length p.enhC) ∧ W.cell? ⟨w.heap.size, 14, none⟩ = some (.slice p.filesA p.files.length p.filesC) from (pA.calls h).2))
  have PB := Lib.hid (fun W (h : Below V.heap.size V W) => (show W.cell? ⟨(w.heap.size + 1), 0, none⟩ = some (.string q.name) ∧ W.cell? ⟨(w.heap.size + 1), 1, none⟩ = some (.int .i64 q.epoch) ∧ W.cell? ⟨(w.heap.size + 1), 2, none⟩ = some (.string q.ver) ∧ W.cell? ⟨(w.heap.size + 1), 3, none⟩ = some (.string q.rel) ∧ W.cell? ⟨(w.heap.size + 1), 4, none⟩ = some (.int .u8 q.arch) ∧ W.cell? ⟨(w.heap.size + 1), 5, none⟩ = some (.string q.vendor) ∧ W.cell? ⟨(w.heap.size + 1), 6, none⟩ = some (.slice q.provA q.prov.length q.provC) ∧ W.cell? ⟨(w.heap.size + 1), 7, none⟩ = some (.slice q.reqA q.req.length q.reqC) ∧ W.cell? ⟨(w.heap.size + 1), 8, none⟩ = some (.slice q.conA q.con.length q.conC) ∧ W.cell? ⟨(w.heap.size + 1), 9, none⟩ = some (.slice q.obsA q.obs.length q.obsC) ∧ W.cell? ⟨(w.heap.size + 1), 10, none⟩ = some (.slice q.rcmA q.rcm.length q.rcmC) ∧ W.cell? ⟨(w.heap.size + 1), 11, none⟩ = some (.slice q.supA q.sup.length q.supC) ∧ W.cell? ⟨(w.heap.size + 1), 12, none⟩ = some (.slice q.sugA q.sug.length q.sugC) ∧ W.cell? ⟨(w.heap.size + 1), 13, none⟩ = some (.slice q.enhA q.enh.length q.enhC) ∧ W.cell? ⟨(w.heap.size + 1), 14, none⟩ = some (.slice q.filesA q.files.length q.filesC) from (pB.calls h).2))
  have BV := Lib.hid b2
  have HV := Lib.hid hV
  clear hp hq fp fq h0 h1 h2 h3 h4 h5 h6 h7 h8 z1 b2 pA pB hV
  unfold Pk.val
  generalize p.name = namex at *
  generalize q.name = namey at *
  generalize p.epoch = epochx at *
  generalize q.epoch = epochy at *
  generalize p.ver = verx at *
  generalize q.ver = very at *
  generalize p.rel = relx at *
  generalize q.rel = rely at *
  generalize p.arch = archx at *
  generalize q.arch = archy at *
  generalize p.vendor = vendorx at *
  generalize q.vendor = vendory at *
  have tl : ∀ {x y : ByteArray}, x = y ∨ ¬ x.toList = y.toList := fun {x y} => by by_cases h : x.toList = y.toList; exact .inl (toList_inj h); exact .inr h
  rcases (tl : namex = namey ∨ _) with rfl | q0
  by_cases q0 : epochx = epochy
  subst q0
  rcases (tl : verx = very ∨ _) with rfl | q0
  rcases (tl : relx = rely ∨ _) with rfl | q0
  by_cases q0 : archx = archy
  subst q0
  rcases (tl : vendorx = vendory ∨ _) with rfl | q0
  · clear tl
    go_enter Tryz.func20, Tryz.ntmps20
    go_wp2_with fail
    go_at_call 79
    refine (E0.out _ (by rw [← HV.out]; exact BV.out)).mono ?_
    rintro e w1 ⟨rfl, h⟩
    rw [← HV.out] at h
    have BB := Lib.hid (show Below V.heap.size V w1 from h)
    generalize (Value.agg #[.string namex, .int .i64 epochx, .string verx, .string relx, .int .u8 archx, .string vendorx, .slice p.provA p.prov.length p.provC, .slice p.reqA p.req.length p.reqC, .slice p.conA p.con.length p.conC, .slice p.obsA p.obs.length p.obsC, .slice p.rcmA p.rcm.length p.rcmC, .slice p.supA p.sup.length p.supC, .slice p.sugA p.sug.length p.sugC, .slice p.enhA p.enh.length p.enhC, .slice p.filesA p.files.length p.filesC]) = vp
    generalize (Value.agg #[.string namex, .int .i64 epochx, .string verx, .string relx, .int .u8 archx, .string vendorx, .slice q.provA q.prov.length q.provC, .slice q.reqA q.req.length q.reqC, .slice q.conA q.con.length q.conC, .slice q.obsA q.obs.length q.obsC, .slice q.rcmA q.rcm.length q.rcmC, .slice q.supA q.sup.length q.supC, .slice q.sugA q.sug.length q.sugC, .slice q.enhA q.enh.length q.enhC, .slice q.filesA q.files.length q.filesC]) = vq
    clear h
    cases r0
    · go_wp2_with fail; go_ret; exact ⟨ret_bool (by rw [HR.out]; simp), BV.out.trans (BB.out.mono BV.out.size)⟩
    obtain ⟨ca0, ca1, ca2, ca3, ca4, ca5, ca6, ca7, ca8, ca9, ca10, ca11, ca12, ca13, ca14⟩ := PA.out _ BB.out
    obtain ⟨cb0, cb1, cb2, cb3, cb4, cb5, cb6, cb7, cb8, cb9, cb10, cb11, cb12, cb13, cb14⟩ := PB.out _ BB.out
    go_wp2_with fail
    go_at_call 17
    refine (E1.out _ (BV.out.trans (BB.out.mono BV.out.size))).mono ?_
    rintro e w2 ⟨rfl, h⟩
    have BB := Lib.hid (BB.out.trans (h.mono BB.out.size))
    clear h ca0 ca1 ca2 ca3 ca4 ca5 ca6 ca7 ca8 ca9 ca10 ca11 ca12 ca13 ca14 cb0 cb1 cb2 cb3 cb4 cb5 cb6 cb7 cb8 cb9 cb10 cb11 cb12 cb13 cb14
    cases r1
    · go_wp2_with fail; go_ret; exact ⟨ret_bool (by rw [HR.out]; simp), BV.out.trans (BB.out.mono BV.out.size)⟩
    obtain ⟨ca0, ca1, ca2, ca3, ca4, ca5, ca6, ca7, ca8, ca9, ca10, ca11, ca12, ca13, ca14⟩ := PA.out _ BB.out
    obtain ⟨cb0, cb1, cb2, cb3, cb4, cb5, cb6, cb7, cb8, cb9, cb10, cb11, cb12, cb13, cb14⟩ := PB.out _ BB.out
    go_wp2_with fail
    go_at_call 17
    refine (E2.out _ (BV.out.trans (BB.out.mono BV.out.size))).mono ?_
    rintro e w3 ⟨rfl, h⟩
    have BB := Lib.hid (BB.out.trans (h.mono BB.out.size))
    clear h ca0 ca1 ca2 ca3 ca4 ca5 ca6 ca7 ca8 ca9 ca10 ca11 ca12 ca13 ca14 cb0 cb1 cb2 cb3 cb4 cb5 cb6 cb7 cb8 cb9 cb10 cb11 cb12 cb13 cb14
    cases r2
    · go_wp2_with fail; go_ret; exact ⟨ret_bool (by rw [HR.out]; simp), BV.out.trans (BB.out.mono BV.out.size)⟩
    obtain ⟨ca0, ca1, ca2, ca3, ca4, ca5, ca6, ca7, ca8, ca9, ca10, ca11, ca12, ca13, ca14⟩ := PA.out _ BB.out
    obtain ⟨cb0, cb1, cb2, cb3, cb4, cb5, cb6, cb7, cb8, cb9, cb10, cb11, cb12, cb13, cb14⟩ := PB.out _ BB.out
    go_wp2_with fail
    go_at_call 79
    refine (E3.out _ (BV.out.trans (BB.out.mono BV.out.size))).mono ?_
    rintro e w4 ⟨rfl, h⟩
    have BB := Lib.hid (BB.out.trans (h.mono BB.out.size))
    clear h ca0 ca1 ca2 ca3 ca4 ca5 ca6 ca7 ca8 ca9 ca10 ca11 ca12 ca13 ca14 cb0 cb1 cb2 cb3 cb4 cb5 cb6 cb7 cb8 cb9 cb10 cb11 cb12 cb13 cb14
    cases r3
    · go_wp2_with fail; go_ret; exact ⟨ret_bool (by rw [HR.out]; simp), BV.out.trans (BB.out.mono BV.out.size)⟩
    obtain ⟨ca0, ca1, ca2, ca3, ca4, ca5, ca6, ca7, ca8, ca9, ca10, ca11, ca12, ca13, ca14⟩ := PA.out _ BB.out
    obtain ⟨cb0, cb1, cb2, cb3, cb4, cb5, cb6, cb7, cb8, cb9, cb10, cb11, cb12, cb13, cb14⟩ := PB.out _ BB.out
    go_wp2_with fail
    go_at_call 17
    refine (E4.out _ (BV.out.trans (BB.out.mono BV.out.size))).mono ?_
    rintro e w5 ⟨rfl, h⟩
    have BB := Lib.hid (BB.out.trans (h.mono BB.out.size))
    clear h ca0 ca1 ca2 ca3 ca4 ca5 ca6 ca7 ca8 ca9 ca10 ca11 ca12 ca13 ca14 cb0 cb1 cb2 cb3 cb4 cb5 cb6 cb7 cb8 cb9 cb10 cb11 cb12 cb13 cb14
    cases r4
    · go_wp2_with fail; go_ret; exact ⟨ret_bool (by rw [HR.out]; simp), BV.out.trans (BB.out.mono BV.out.size)⟩
    obtain ⟨ca0, ca1, ca2, ca3, ca4, ca5, ca6, ca7, ca8, ca9, ca10, ca11, ca12, ca13, ca14⟩ := PA.out _ BB.out
    obtain ⟨cb0, cb1, cb2, cb3, cb4, cb5, cb6, cb7, cb8, cb9, cb10, cb11, cb12, cb13, cb14⟩ := PB.out _ BB.out
    go_wp2_with fail
    go_at_call 17
    refine (E5.out _ (BV.out.trans (BB.out.mono BV.out.size))).mono ?_
    rintro e w6 ⟨rfl, h⟩
    have BB := Lib.hid (BB.out.trans (h.mono BB.out.size))
    clear h ca0 ca1 ca2 ca3 ca4 ca5 ca6 ca7 ca8 ca9 ca10 ca11 ca12 ca13 ca14 cb0 cb1 cb2 cb3 cb4 cb5 cb6 cb7 cb8 cb9 cb10 cb11 cb12 cb13 cb14
    cases r5
    · go_wp2_with fail; go_ret; exact ⟨ret_bool (by rw [HR.out]; simp), BV.out.trans (BB.out.mono BV.out.size)⟩
    obtain ⟨ca0, ca1, ca2, ca3, ca4, ca5, ca6, ca7, ca8, ca9, ca10, ca11, ca12, ca13, ca14⟩ := PA.out _ BB.out
    obtain ⟨cb0, cb1, cb2, cb3, cb4, cb5, cb6, cb7, cb8, cb9, cb10, cb11, cb12, cb13, cb14⟩ := PB.out _ BB.out
    go_wp2_with fail
    go_at_call 17
    refine (E6.out _ (BV.out.trans (BB.out.mono BV.out.size))).mono ?_
    rintro e w7 ⟨rfl, h⟩
    have BB := Lib.hid (BB.out.trans (h.mono BB.out.size))
    clear h ca0 ca1 ca2 ca3 ca4 ca5 ca6 ca7 ca8 ca9 ca10 ca11 ca12 ca13 ca14 cb0 cb1 cb2 cb3 cb4 cb5 cb6 cb7 cb8 cb9 cb10 cb11 cb12 cb13 cb14
    cases r6
    · go_wp2_with fail; go_ret; exact ⟨ret_bool (by rw [HR.out]; simp), BV.out.trans (BB.out.mono BV.out.size)⟩
    obtain ⟨ca0, ca1, ca2, ca3, ca4, ca5, ca6, ca7, ca8, ca9, ca10, ca11, ca12, ca13, ca14⟩ := PA.out _ BB.out
    obtain ⟨cb0, cb1, cb2, cb3, cb4, cb5, cb6, cb7, cb8, cb9, cb10, cb11, cb12, cb13, cb14⟩ := PB.out _ BB.out
    go_wp2_with fail
    go_at_call 17
    refine (E7.out _ (BV.out.trans (BB.out.mono BV.out.size))).mono ?_
    rintro e w8 ⟨rfl, h⟩
    have BB := Lib.hid (BB.out.trans (h.mono BB.out.size))
    clear h ca0 ca1 ca2 ca3 ca4 ca5 ca6 ca7 ca8 ca9 ca10 ca11 ca12 ca13 ca14 cb0 cb1 cb2 cb3 cb4 cb5 cb6 cb7 cb8 cb9 cb10 cb11 cb12 cb13 cb14
    cases r7
    · go_wp2_with fail; go_ret; exact ⟨ret_bool (by rw [HR.out]; simp), BV.out.trans (BB.out.mono BV.out.size)⟩
    obtain ⟨ca0, ca1, ca2, ca3, ca4, ca5, ca6, ca7, ca8, ca9, ca10, ca11, ca12, ca13, ca14⟩ := PA.out _ BB.out
    obtain ⟨cb0, cb1, cb2, cb3, cb4, cb5, cb6, cb7, cb8, cb9, cb10, cb11, cb12, cb13, cb14⟩ := PB.out _ BB.out
    go_wp2_with fail
    go_at_call 80
    refine (E8.out _ (BV.out.trans (BB.out.mono BV.out.size))).mono ?_
    rintro e w9 ⟨rfl, h⟩
    have BB := Lib.hid (BB.out.trans (h.mono BB.out.size))
    clear h ca0 ca1 ca2 ca3 ca4 ca5 ca6 ca7 ca8 ca9 ca10 ca11 ca12 ca13 ca14 cb0 cb1 cb2 cb3 cb4 cb5 cb6 cb7 cb8 cb9 cb10 cb11 cb12 cb13 cb14
    cases r8
    · go_wp2_with fail; go_ret; exact ⟨ret_bool (by rw [HR.out]; simp), BV.out.trans (BB.out.mono BV.out.size)⟩
    go_wp2_with fail; go_ret; exact ⟨ret_bool (by rw [HR.out]; simp), BV.out.trans (BB.out.mono BV.out.size)⟩
  all_goals
    clear tl
    go_enter Tryz.func20, Tryz.ntmps20
    go_wp2_with fail
    go_ret
    exact ⟨ret_bool (by rw [HR.out]; simp [q0]), by rw [← HV.out]; exact BV.out⟩
end Go.Proofs.YteobmfpbgnmffaaGreatDoor
