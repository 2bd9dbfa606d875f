/- R10All -/
import Derived.Test.YteobmfpbgnmffaaGreatDoorPkgCopiesRowG34
import Derived.Test.YteobmfpbgnmffaaGreatDoorPkgCopiesRowG38
set_option linter.unusedSimpArgs false
set_option linter.unusedVariables false
/- Walk: a package's rich dependencies in one row (chandleryref10.All). -/


namespace Go.Proofs.YteobmfpbgnmffaaGreatDoor
open Go.RowKit Go.Shelf
set_option linter.unusedVariables false

structure RA (w : World) (p : Pk) (l : List RV) (v : Value) (W : World) : Prop where
  old : Below w.heap.size w W
  box : PkAt W w.heap.size p
  own : Own encR 7 (w.heap.size + 1) 39 v l W
  room : w.heap.size + 1 ≤ W.heap.size
theorem RA.more {w W W' : World} {p : Pk} {l D : List RV} {v v' : Value} (h : RA w p l v W) (ho : W'.ownsRow (w.heap.size + 1) 39 7 v' (l.length + D.length) (l.flatMap encR ++ D.flatMap encR)) (hg : W.grownBy W' v.ownBlock) : RA w p (l ++ D) v' W' := by
  have hb : Below (w.heap.size + 1) W W' := (Below.refl _ W).grown hg h.room (fun j e => (World.ownsRow.lt h.own j e).1)
  refine ⟨h.old.trans (hb.mono (Nat.le_succ _)), kp_atA h.box (kp_pastA (Nat.lt_succ_self _) hb), ?_, Nat.le_trans h.room hg.size⟩
  unfold Own
  rw [List.length_append, List.flatMap_append]
  exact ho
theorem all_trees {p : Pk} {w W : World} (hL : p.Laid w.heap.size w) (h : Below w.heap.size w W) : ∀ t ∈ (((((([] ++ p.req) ++ p.con) ++ p.rcm) ++ p.sup) ++ p.sug) ++ p.enh), RTree W.heap.size W t := by
  intro t ht
  simp only [List.nil_append, List.mem_append] at ht
  rcases ht with ((((ht | ht) | ht) | ht) | ht) | ht
  · exact (((RRow.below hL.req h).more h.size).2 t ht)
  · exact (((RRow.below hL.con h).more h.size).2 t ht)
  · exact (((RRow.below hL.rcm h).more h.size).2 t ht)
  · exact (((RRow.below hL.sup h).more h.size).2 t ht)
  · exact (((RRow.below hL.sug h).more h.size).2 t ht)
  · exact (((RRow.below hL.enh h).more h.size).2 t ht)
theorem six_small {p : Pk} (h : ∀ k, k < 6 → partsL (treeL (sixL p k)) ≤ 2000) : ∀ i : Fin 6, (sixL p i.val).length ≤ 2000 := fun i => (parts_each (h i.val i.isLt)).1
set_option maxRecDepth 100000 in
set_option maxHeartbeats 16000000 in
theorem r10all_any (p : Pk) (w : World) (hL : p.Laid w.heap.size w) (hf : ∀ i : Fin 6, (sixL p i.val).length ≤ 2000) : Calls Tryz.prog 18 #[p.val] w fun e w' => ∃ A c l, e = .returned (.slice A l.length c) ∧ treeL l = allT p ∧ RRow w'.heap.size w' A c l ∧ Below w.heap.size w w' := by
  have z1 : (w.alloc (.cells #[.string p.name, .int .i64 p.epoch, .string p.ver, .string p.rel, .int .u8 p.arch, .string p.vendor, .slice p.provA p.prov.length p.provC, .slice p.reqA p.req.length p.reqC, .slice p.conA p.con.length p.conC, .slice p.obsA p.obs.length p.obsC, .slice p.rcmA p.rcm.length p.rcmC, .slice p.supA p.sup.length p.supC, .slice p.sugA p.sug.length p.sugC, .slice p.enhA p.enh.length p.enhC, .slice p.filesA p.files.length p.filesC] 28)).heap.size = w.heap.size + 1 := by simp
  have S0 : RA w p [] (.slice none 0 0) (w.alloc (.cells #[.string p.name, .int .i64 p.epoch, .string p.ver, .string p.rel, .int .u8 p.arch, .string p.vendor, .slice p.provA p.prov.length p.provC, .slice p.reqA p.req.length p.reqC, .slice p.conA p.con.length p.conC, .slice p.obsA p.obs.length p.obsC, .slice p.rcmA p.rcm.length p.rcmC, .slice p.supA p.sup.length p.supC, .slice p.sugA p.sug.length p.sugC, .slice p.enhA p.enh.length p.enhC, .slice p.filesA p.files.length p.filesC] 28)) := ⟨(Below.refl _ _).alloc (Nat.le_refl _) _, PkAt.new w p, Own.nil_ _ _ _, by rw [z1]; exact Nat.le_refl _⟩
  obtain ⟨V, hV⟩ : ∃ V, V = w.alloc (.cells #[.string p.name, .int .i64 p.epoch, .string p.ver, .string p.rel, .int .u8 p.arch, .string p.vendor, .slice p.provA p.prov.length p.provC, .slice p.reqA p.req.length p.reqC, .slice p.conA p.con.length p.conC, .slice p.obsA p.obs.length p.obsC, .slice p.rcmA p.rcm.length p.rcmC, .slice p.supA p.sup.length p.supC, .slice p.sugA p.sug.length p.sugC, .slice p.enhA p.enh.length p.enhC, .slice p.filesA p.files.length p.filesC] 28) := ⟨_, rfl⟩
  rw [← hV] at S0
  have Lreq := Lib.hid (fun W (h : Below w.heap.size w W) => ((RRow.below hL.req h).more h.size).1)
  have Nreq := Lib.hid (show p.req.length ≤ 2000 from hf 0)
  have Lcon := Lib.hid (fun W (h : Below w.heap.size w W) => ((RRow.below hL.con h).more h.size).1)
  have Ncon := Lib.hid (show p.con.length ≤ 2000 from hf 1)
  have Lrcm := Lib.hid (fun W (h : Below w.heap.size w W) => ((RRow.below hL.rcm h).more h.size).1)
  have Nrcm := Lib.hid (show p.rcm.length ≤ 2000 from hf 2)
  have Lsup := Lib.hid (fun W (h : Below w.heap.size w W) => ((RRow.below hL.sup h).more h.size).1)
  have Nsup := Lib.hid (show p.sup.length ≤ 2000 from hf 3)
  have Lsug := Lib.hid (fun W (h : Below w.heap.size w W) => ((RRow.below hL.sug h).more h.size).1)
  have Nsug := Lib.hid (show p.sug.length ≤ 2000 from hf 4)
  have Lenh := Lib.hid (fun W (h : Below w.heap.size w W) => ((RRow.below hL.enh h).more h.size).1)
  have Nenh := Lib.hid (show p.enh.length ≤ 2000 from hf 5)
  have HT := Lib.hid (fun W (h : Below w.heap.size w W) => all_trees hL h)
  have S0 := Lib.hid S0
  have HV := Lib.hid hV
  clear hL hf z1 hV
  unfold Pk.val
  go_enter Tryz.func18, Tryz.ntmps18
  go_upto_region 1 with fail
  rw [← HV.out]
  clear HV
  obtain ⟨hl, c0, c1, c2, c3, c4, c5, c6, c7, c8, c9, c10, c11, c12, c13, c14⟩ := S0.out.box
  have R0 := Lib.hid (Lreq.out _ S0.out.old)
  go_wp2_with (at_builtin; refine Hid.out ?_)
  refine Lib.hid ?_
  refine wpList_append_rd (P := Tryz.prog) _ rfl _ _ 25 rfl (w.heap.size + 1) 39 _ _ 7 _ (by rfl) (by rfl) (by rfl) (by rfl) (by rfl) (by rfl) (by decide) encR_len encR_one _ _ _ rfl S0.out.own _ p.reqA p.reqC p.req _ rfl rfl R0.out ?n0 (by decide) S0.out.room ?_
  case n0 => have := Nreq.out; simp; omega
  intro v1 w1 ho hg hv
  have S1 := Lib.hid (S0.out.more (D := p.req) ho hg)
  clear ho hg hv R0 S0 hl c0 c1 c2 c3 c4 c5 c6 c7 c8 c9 c10 c11 c12 c13 c14
  obtain ⟨hl, c0, c1, c2, c3, c4, c5, c6, c7, c8, c9, c10, c11, c12, c13, c14⟩ := S1.out.box
  have R1 := Lib.hid (Lcon.out _ S1.out.old)
  go_wp2_with (at_builtin; refine Hid.out ?_)
  refine Lib.hid ?_
  refine wpList_append_rd (P := Tryz.prog) _ rfl _ _ 25 rfl (w.heap.size + 1) 39 _ _ 7 _ (by rfl) (by rfl) (by rfl) (by rfl) (by rfl) (by rfl) (by decide) encR_len encR_one _ _ _ rfl S1.out.own _ p.conA p.conC p.con _ rfl rfl R1.out ?n1 (by decide) S1.out.room ?_
  case n1 => have := Nreq.out; have := Ncon.out; simp only [List.length_append, List.length_nil]; omega
  intro v2 w2 ho hg hv
  have S2 := Lib.hid (S1.out.more (D := p.con) ho hg)
  clear ho hg hv R1 S1 hl c0 c1 c2 c3 c4 c5 c6 c7 c8 c9 c10 c11 c12 c13 c14
  obtain ⟨hl, c0, c1, c2, c3, c4, c5, c6, c7, c8, c9, c10, c11, c12, c13, c14⟩ := S2.out.box
  have R2 := Lib.hid (Lrcm.out _ S2.out.old)
  go_wp2_with (at_builtin; refine Hid.out ?_)
  refine Lib.hid ?_
  refine wpList_append_rd (P := Tryz.prog) _ rfl _ _ 25 rfl (w.heap.size + 1) 39 _ _ 7 _ (by rfl) (by rfl) (by rfl) (by rfl) (by rfl) (by rfl) (by decide) encR_len encR_one _ _ _ rfl S2.out.own _ p.rcmA p.rcmC p.rcm _ rfl rfl R2.out ?n2 (by decide) S2.out.room ?_
  case n2 => have := Nreq.out; have := Ncon.out; have := Nrcm.out; simp only [List.length_append, List.length_nil]; omega
  intro v3 w3 ho hg hv
  have S3 := Lib.hid (S2.out.more (D := p.rcm) ho hg)
  clear ho hg hv R2 S2 hl c0 c1 c2 c3 c4 c5 c6 c7 c8 c9 c10 c11 c12 c13 c14
  obtain ⟨hl, c0, c1, c2, c3, c4, c5, c6, c7, c8, c9, c10, c11, c12, c13, c14⟩ := S3.out.box
  have R3 := Lib.hid (Lsup.out _ S3.out.old)
  go_wp2_with (at_builtin; refine Hid.out ?_)
  refine Lib.hid ?_
  refine wpList_append_rd (P := Tryz.prog) _ rfl _ _ 25 rfl (w.heap.size + 1) 39 _ _ 7 _ (by rfl) (by rfl) (by rfl) (by rfl) (by rfl) (by rfl) (by decide) encR_len encR_one _ _ _ rfl S3.out.own _ p.supA p.supC p.sup _ rfl rfl R3.out ?n3 (by decide) S3.out.room ?_
  case n3 => have := Nreq.out; have := Ncon.out; have := Nrcm.out; have := Nsup.out; simp only [List.length_append, List.length_nil]; omega
  intro v4 w4 ho hg hv
  have S4 := Lib.hid (S3.out.more (D := p.sup) ho hg)
  clear ho hg hv R3 S3 hl c0 c1 c2 c3 c4 c5 c6 c7 c8 c9 c10 c11 c12 c13 c14
  obtain ⟨hl, c0, c1, c2, c3, c4, c5, c6, c7, c8, c9, c10, c11, c12, c13, c14⟩ := S4.out.box
  have R4 := Lib.hid (Lsug.out _ S4.out.old)
  go_wp2_with (at_builtin; refine Hid.out ?_)
  refine Lib.hid ?_
  refine wpList_append_rd (P := Tryz.prog) _ rfl _ _ 25 rfl (w.heap.size + 1) 39 _ _ 7 _ (by rfl) (by rfl) (by rfl) (by rfl) (by rfl) (by rfl) (by decide) encR_len encR_one _ _ _ rfl S4.out.own _ p.sugA p.sugC p.sug _ rfl rfl R4.out ?n4 (by decide) S4.out.room ?_
  case n4 => have := Nreq.out; have := Ncon.out; have := Nrcm.out; have := Nsup.out; have := Nsug.out; simp only [List.length_append, List.length_nil]; omega
  intro v5 w5 ho hg hv
  have S5 := Lib.hid (S4.out.more (D := p.sug) ho hg)
  clear ho hg hv R4 S4 hl c0 c1 c2 c3 c4 c5 c6 c7 c8 c9 c10 c11 c12 c13 c14
  obtain ⟨hl, c0, c1, c2, c3, c4, c5, c6, c7, c8, c9, c10, c11, c12, c13, c14⟩ := S5.out.box
  have R5 := Lib.hid (Lenh.out _ S5.out.old)
  go_wp2_with (at_builtin; refine Hid.out ?_)
  refine Lib.hid ?_
  refine wpList_append_rd (P := Tryz.prog) _ rfl _ _ 25 rfl (w.heap.size + 1) 39 _ _ 7 _ (by rfl) (by rfl) (by rfl) (by rfl) (by rfl) (by rfl) (by decide) encR_len encR_one _ _ _ rfl S5.out.own _ p.enhA p.enhC p.enh _ rfl rfl R5.out ?n5 (by decide) S5.out.room ?_
  case n5 => have := Nreq.out; have := Ncon.out; have := Nrcm.out; have := Nsup.out; have := Nsug.out; have := Nenh.out; simp only [List.length_append, List.length_nil]; omega
  intro v6 w6 ho hg hv
  have S6 := Lib.hid (S5.out.more (D := p.enh) ho hg)
  clear ho hg hv R5 S5 hl c0 c1 c2 c3 c4 c5 c6 c7 c8 c9 c10 c11 c12 c13 c14
  go_wp2_with fail
  obtain ⟨A9, c9, rfl⟩ := own_shape S6.out.own
  refine bodyPost_ret (v := .slice A9 _ c9) (by simp [results, Tryz.results18, go_sem]; rfl) rfl ?_
  obtain ⟨A8, c8, e8, hr⟩ := Own.rd S6.out.own encR_len
  cases e8
  exact ⟨A9, c9, _, by simp [Nat.add_assoc], by simp [treeL_app, treeL, allT], ⟨hr, HT.out _ S6.out.old⟩, S6.out.old⟩
end Go.Proofs.YteobmfpbgnmffaaGreatDoor
