/- PkgItself, walked. -/
import Derived.Test.YtinidiiachedbaaDoorPkLarge
import Derived.Test.YtinidiiachedbaaDoorPkAwake
import Derived.Test.YtinidiiachedbaaDoorSpLaw
import Derived.Deep.RegionHeld3
namespace Go.Proofs.YtinidiiachedbaaDoor
open Go.RowKit Go.Shelf
set_option linter.unusedVariables false

theorem evok_small {p : Pk} (h : p.small) : p.evr.ok := ⟨by show p.ver.toList.length ≤ 1000000; rw [size_toList]; have := h.ver; omega, by show p.rel.toList.length ≤ 1000000; rw [size_toList]; have := h.rel; omega⟩
theorem any_take {α : Type} (f : α → Bool) (l : List α) {k : Nat} (hk : k < l.length) : (l.take (k + 1)).any f = ((l.take k).any f || f l[k]) := by rw [← List.take_append_getElem hk, List.any_append]; simp
def FiveAt (W : World) (b : Nat) (v0 v1 v2 v3 v4 : Value) : Prop := b < W.heap.size ∧ W.cell? ⟨b, 0, none⟩ = some v0 ∧ W.cell? ⟨b, 1, none⟩ = some v1 ∧ W.cell? ⟨b, 2, none⟩ = some v2 ∧ W.cell? ⟨b, 3, none⟩ = some v3 ∧ W.cell? ⟨b, 4, none⟩ = some v4
theorem FiveAt.calls {W W' : World} {b : Nat} {v0 v1 v2 v3 v4 : Value} (h : FiveAt W b v0 v1 v2 v3 v4) (hb : Below W.heap.size W W') : FiveAt W' b v0 v1 v2 v3 v4 := by
  obtain ⟨hl, h0, h1, h2, h3, h4⟩ := h
  exact ⟨Nat.lt_of_lt_of_le hl hb.size, (hb.cell (p := ⟨b, 0, none⟩) hl).trans h0, (hb.cell (p := ⟨b, 1, none⟩) hl).trans h1, (hb.cell (p := ⟨b, 2, none⟩) hl).trans h2, (hb.cell (p := ⟨b, 3, none⟩) hl).trans h3, (hb.cell (p := ⟨b, 4, none⟩) hl).trans h4⟩
theorem FiveAt.new (W : World) (v0 v1 v2 v3 v4 : Value) (t : TypeId) : FiveAt (W.alloc (.cells #[v0, v1, v2, v3, v4] t)) W.heap.size v0 v1 v2 v3 v4 := ⟨by simp, (World.cell?_alloc_at _ _ _ _ rfl).trans rfl, (World.cell?_alloc_at _ _ _ _ rfl).trans rfl, (World.cell?_alloc_at _ _ _ _ rfl).trans rfl, (World.cell?_alloc_at _ _ _ _ rfl).trans rfl, (World.cell?_alloc_at _ _ _ _ rfl).trans rfl⟩
/-- a package is named by its own -/
theorem own_named (p : Pk) : meetsN p.ownD p.ownD = true := by
  unfold meetsN
  rw [meet_self (a := p.ownD) ⟨show (0 : Int) ≤ 2 by decide, show (2 : Int) ≤ 255 by decide⟩]
  simp
theorem own_provided (p : Pk) : provB p p.ownD = true := by unfold provB; rw [own_named]; rfl
theorem named_provided {p : Pk} {d : Dp} (h : meetsN p.ownD d = true) : provB p d = true := by unfold provB; rw [h]; rfl
theorem keep_it {p q : Pk} {dk : Dp} {w0 wr W W' : World} {b o k N : Nat} (h : W.cell? ⟨w0.heap.size + 1, 0, none⟩ = some (.string q.name) ∧ W.cell? ⟨w0.heap.size + 1, 1, none⟩ = some (.int .i64 q.epoch) ∧ W.cell? ⟨w0.heap.size + 1, 2, none⟩ = some (.string q.ver) ∧ W.cell? ⟨w0.heap.size + 1, 3, none⟩ = some (.string q.rel) ∧ W.cell? ⟨w0.heap.size + 1, 4, none⟩ = some (.int .u8 q.arch) ∧ W.cell? ⟨w0.heap.size + 1, 5, none⟩ = some (.string q.vendor) ∧ W.cell? ⟨w0.heap.size + 1, 6, none⟩ = some (.slice q.provA q.prov.length q.provC) ∧ W.cell? ⟨w0.heap.size + 1, 7, none⟩ = some (.slice q.reqA q.req.length q.reqC) ∧ W.cell? ⟨w0.heap.size + 1, 8, none⟩ = some (.slice q.conA q.con.length q.conC) ∧ W.cell? ⟨w0.heap.size + 1, 9, none⟩ = some (.slice q.obsA q.obs.length q.obsC) ∧ W.cell? ⟨w0.heap.size + 1, 10, none⟩ = some (.slice q.rcmA q.rcm.length q.rcmC) ∧ W.cell? ⟨w0.heap.size + 1, 11, none⟩ = some (.slice q.supA q.sup.length q.supC) ∧ W.cell? ⟨w0.heap.size + 1, 12, none⟩ = some (.slice q.sugA q.sug.length q.sugC) ∧ W.cell? ⟨w0.heap.size + 1, 13, none⟩ = some (.slice q.enhA q.enh.length q.enhC) ∧ W.cell? ⟨w0.heap.size + 1, 14, none⟩ = some (.slice q.filesA q.files.length q.filesC) ∧ W.cell? ⟨w0.heap.size, 9, none⟩ = some (.slice (some ⟨b, o, none⟩) N p.obsC) ∧ W.cell? ⟨b, o + k * 5, none⟩ = some (.string (bs dk.name)) ∧ W.cell? ⟨b, o + k * 5 + 1, none⟩ = some (.int .u8 dk.op) ∧ W.cell? ⟨b, o + k * 5 + 2, none⟩ = some (.int .i64 dk.evr.epoch) ∧ W.cell? ⟨b, o + k * 5 + 3, none⟩ = some (.string (bs dk.evr.ver)) ∧ W.cell? ⟨b, o + k * 5 + 4, none⟩ = some (.string (bs dk.evr.rel)) ∧ w0.heap.size + 1 < W.heap.size ∧ b < W.heap.size ∧ Below wr.heap.size wr W) (hb : Below W.heap.size W W') : W'.cell? ⟨w0.heap.size + 1, 0, none⟩ = some (.string q.name) ∧ W'.cell? ⟨w0.heap.size + 1, 1, none⟩ = some (.int .i64 q.epoch) ∧ W'.cell? ⟨w0.heap.size + 1, 2, none⟩ = some (.string q.ver) ∧ W'.cell? ⟨w0.heap.size + 1, 3, none⟩ = some (.string q.rel) ∧ W'.cell? ⟨w0.heap.size + 1, 4, none⟩ = some (.int .u8 q.arch) ∧ W'.cell? ⟨w0.heap.size + 1, 5, none⟩ = some (.string q.vendor) ∧ W'.cell? ⟨w0.heap.size + 1, 6, none⟩ = some (.slice q.provA q.prov.length q.provC) ∧ W'.cell? ⟨w0.heap.size + 1, 7, none⟩ = some (.slice q.reqA q.req.length q.reqC) ∧ W'.cell? ⟨w0.heap.size + 1, 8, none⟩ = some (.slice q.conA q.con.length q.conC) ∧ W'.cell? ⟨w0.heap.size + 1, 9, none⟩ = some (.slice q.obsA q.obs.length q.obsC) ∧ W'.cell? ⟨w0.heap.size + 1, 10, none⟩ = some (.slice q.rcmA q.rcm.length q.rcmC) ∧ W'.cell? ⟨w0.heap.size + 1, 11, none⟩ = some (.slice q.supA q.sup.length q.supC) ∧ W'.cell? ⟨w0.heap.size + 1, 12, none⟩ = some (.slice q.sugA q.sug.length q.sugC) ∧ W'.cell? ⟨w0.heap.size + 1, 13, none⟩ = some (.slice q.enhA q.enh.length q.enhC) ∧ W'.cell? ⟨w0.heap.size + 1, 14, none⟩ = some (.slice q.filesA q.files.length q.filesC) ∧ W'.cell? ⟨w0.heap.size, 9, none⟩ = some (.slice (some ⟨b, o, none⟩) N p.obsC) ∧ W'.cell? ⟨b, o + k * 5, none⟩ = some (.string (bs dk.name)) ∧ W'.cell? ⟨b, o + k * 5 + 1, none⟩ = some (.int .u8 dk.op) ∧ W'.cell? ⟨b, o + k * 5 + 2, none⟩ = some (.int .i64 dk.evr.epoch) ∧ W'.cell? ⟨b, o + k * 5 + 3, none⟩ = some (.string (bs dk.evr.ver)) ∧ W'.cell? ⟨b, o + k * 5 + 4, none⟩ = some (.string (bs dk.evr.rel)) ∧ w0.heap.size + 1 < W'.heap.size ∧ b < W'.heap.size ∧ Below wr.heap.size wr W' := by
  obtain ⟨q0, q1, q2, q3, q4, q5, q6, q7, q8, q9, q10, q11, q12, q13, q14, c9, e0, e1, e2, e3, e4, lq, lb, hB⟩ := h
  exact ⟨(hb.cell (p := ⟨w0.heap.size + 1, 0, none⟩) lq).trans q0, (hb.cell (p := ⟨w0.heap.size + 1, 1, none⟩) lq).trans q1, (hb.cell (p := ⟨w0.heap.size + 1, 2, none⟩) lq).trans q2, (hb.cell (p := ⟨w0.heap.size + 1, 3, none⟩) lq).trans q3, (hb.cell (p := ⟨w0.heap.size + 1, 4, none⟩) lq).trans q4, (hb.cell (p := ⟨w0.heap.size + 1, 5, none⟩) lq).trans q5, (hb.cell (p := ⟨w0.heap.size + 1, 6, none⟩) lq).trans q6, (hb.cell (p := ⟨w0.heap.size + 1, 7, none⟩) lq).trans q7, (hb.cell (p := ⟨w0.heap.size + 1, 8, none⟩) lq).trans q8, (hb.cell (p := ⟨w0.heap.size + 1, 9, none⟩) lq).trans q9, (hb.cell (p := ⟨w0.heap.size + 1, 10, none⟩) lq).trans q10, (hb.cell (p := ⟨w0.heap.size + 1, 11, none⟩) lq).trans q11, (hb.cell (p := ⟨w0.heap.size + 1, 12, none⟩) lq).trans q12, (hb.cell (p := ⟨w0.heap.size + 1, 13, none⟩) lq).trans q13, (hb.cell (p := ⟨w0.heap.size + 1, 14, none⟩) lq).trans q14, (hb.cell (p := ⟨w0.heap.size, 9, none⟩) (Nat.lt_trans (Nat.lt_succ_self _) lq)).trans c9, (hb.cell (p := ⟨b, o + k * 5, none⟩) lb).trans e0, (hb.cell (p := ⟨b, o + k * 5 + 1, none⟩) lb).trans e1, (hb.cell (p := ⟨b, o + k * 5 + 2, none⟩) lb).trans e2, (hb.cell (p := ⟨b, o + k * 5 + 3, none⟩) lb).trans e3, (hb.cell (p := ⟨b, o + k * 5 + 4, none⟩) lb).trans e4, Nat.lt_of_lt_of_le lq hb.size, Nat.lt_of_lt_of_le lb hb.size, hB.trans (hb.mono hB.size)⟩
theorem tail_it {p q : Pk} {dk : Dp} {w0 wr W : World} {b o k N : Nat} (h : W.cell? ⟨w0.heap.size + 1, 0, none⟩ = some (.string q.name) ∧ W.cell? ⟨w0.heap.size + 1, 1, none⟩ = some (.int .i64 q.epoch) ∧ W.cell? ⟨w0.heap.size + 1, 2, none⟩ = some (.string q.ver) ∧ W.cell? ⟨w0.heap.size + 1, 3, none⟩ = some (.string q.rel) ∧ W.cell? ⟨w0.heap.size + 1, 4, none⟩ = some (.int .u8 q.arch) ∧ W.cell? ⟨w0.heap.size + 1, 5, none⟩ = some (.string q.vendor) ∧ W.cell? ⟨w0.heap.size + 1, 6, none⟩ = some (.slice q.provA q.prov.length q.provC) ∧ W.cell? ⟨w0.heap.size + 1, 7, none⟩ = some (.slice q.reqA q.req.length q.reqC) ∧ W.cell? ⟨w0.heap.size + 1, 8, none⟩ = some (.slice q.conA q.con.length q.conC) ∧ W.cell? ⟨w0.heap.size + 1, 9, none⟩ = some (.slice q.obsA q.obs.length q.obsC) ∧ W.cell? ⟨w0.heap.size + 1, 10, none⟩ = some (.slice q.rcmA q.rcm.length q.rcmC) ∧ W.cell? ⟨w0.heap.size + 1, 11, none⟩ = some (.slice q.supA q.sup.length q.supC) ∧ W.cell? ⟨w0.heap.size + 1, 12, none⟩ = some (.slice q.sugA q.sug.length q.sugC) ∧ W.cell? ⟨w0.heap.size + 1, 13, none⟩ = some (.slice q.enhA q.enh.length q.enhC) ∧ W.cell? ⟨w0.heap.size + 1, 14, none⟩ = some (.slice q.filesA q.files.length q.filesC) ∧ W.cell? ⟨w0.heap.size, 9, none⟩ = some (.slice (some ⟨b, o, none⟩) N p.obsC) ∧ W.cell? ⟨b, o + k * 5, none⟩ = some (.string (bs dk.name)) ∧ W.cell? ⟨b, o + k * 5 + 1, none⟩ = some (.int .u8 dk.op) ∧ W.cell? ⟨b, o + k * 5 + 2, none⟩ = some (.int .i64 dk.evr.epoch) ∧ W.cell? ⟨b, o + k * 5 + 3, none⟩ = some (.string (bs dk.evr.ver)) ∧ W.cell? ⟨b, o + k * 5 + 4, none⟩ = some (.string (bs dk.evr.rel)) ∧ w0.heap.size + 1 < W.heap.size ∧ b < W.heap.size ∧ Below wr.heap.size wr W) : Below wr.heap.size wr W := h.2.2.2.2.2.2.2.2.2.2.2.2.2.2.2.2.2.2.2.2.2.2.2
set_option maxRecDepth 100000 in
set_option maxHeartbeats 16000000 in
theorem pkgItself_row (w0 : World) (hI : PkIn w0) (p : Pk) (hp : p.Laid w0.heap.size w0) (q : Pk) (hq : q.Laid w0.heap.size w0) (d : Dp) (hdw : d.wf) (z0 : d.name.length ≤ reachBytes) (z1 : d.evr.ver.length ≤ reachBytes) : Calls Tryd.prog 8 #[p.val, q.val, d.val] w0 fun e w' => e = .returned (.bool true) ∧ Below w0.heap.size w0 w' := by
  have LP := Lib.hid (fun W (h : Below w0.heap.size w0 W) => pklarge_any p W ((hp.below h).more h.size))
  have LQ := Lib.hid (fun W (h : Below w0.heap.size w0 W) => pklarge_any q W ((hq.below h).more h.size))
  have AW := Lib.hid (fun W (h : Below w0.heap.size w0 W) => awake10 W (hI.below h))
  have OQ := Lib.hid (fun (sp : p.small) (sq : q.small) W (h : Below w0.heap.size w0 W) => pkobs_any p q W ((hp.below h).more h.size) sp (evok_small sq))
  have OW := Lib.hid (fun W => pkown_any p W)
  have NO := Lib.hid (fun (sp : p.small) W => pknamed_any p p.ownD W (evok_small sp) (evok_small sp) ⟨show (0 : Int) ≤ 2 by decide, show (2 : Int) ≤ 255 by decide⟩)
  have PO := Lib.hid (fun (sp : p.small) W (h : Below w0.heap.size w0 W) => pkprov_any p p.ownD W ((hp.below h).more h.size) sp (evok_small sp) (evok_small sp) ⟨show (0 : Int) ≤ 2 by decide, show (2 : Int) ≤ 255 by decide⟩)
  have ND := Lib.hid (fun (sp : p.small) (hd : d.evr.ok) W => pknamed_any p d W (evok_small sp) hd (u8_wf hdw.2.1))
  have PD := Lib.hid (fun (sp : p.small) (hd : d.evr.ok) W (h : Below w0.heap.size w0 W) => pkprov_any p d W ((hp.below h).more h.size) sp (evok_small sp) hd (u8_wf hdw.2.1))
  have NK := Lib.hid (fun (sp : p.small) (sq : q.small) (k : Nat) (hk : k < p.obs.length) W => pknamed_any q p.obs[k] W (evok_small sq) (small_ok (sp.obs _ (List.getElem_mem hk))) (u8_wf (hp.obsW _ (List.getElem_mem hk)).2.1))
  rw [own_named] at NO
  rw [own_provided] at PO
  have HL := Lib.hid hp.obs
  have HN := Lib.hid (show meetsN p.ownD d = true → provB p d = true from named_provided)
  have s1 := bs_size d.evr.ver
  have s2 := bs_size d.evr.rel
  have DOK := Lib.hid (fun (h1 : (bs d.evr.ver).size ≤ 1000) (h2 : (bs d.evr.rel).size ≤ 1000) => show d.evr.ok from ⟨by omega, by omega⟩)
  have B0 := ((Below.refl w0.heap.size w0).alloc (Nat.le_refl _) (.cells #[.string p.name, .int .i64 p.epoch, .string p.ver, .string p.rel, .int .u8 p.arch, .string p.vendor, .slice p.provA p.prov.length p.provC, .slice p.reqA p.req.length p.reqC, .slice p.conA p.con.length p.conC, .slice p.obsA p.obs.length p.obsC, .slice p.rcmA p.rcm.length p.rcmC, .slice p.supA p.sup.length p.supC, .slice p.sugA p.sug.length p.sugC, .slice p.enhA p.enh.length p.enhC, .slice p.filesA p.files.length p.filesC] 51)).alloc (by simp) (.cells #[.string q.name, .int .i64 q.epoch, .string q.ver, .string q.rel, .int .u8 q.arch, .string q.vendor, .slice q.provA q.prov.length q.provC, .slice q.reqA q.req.length q.reqC, .slice q.conA q.con.length q.conC, .slice q.obsA q.obs.length q.obsC, .slice q.rcmA q.rcm.length q.rcmC, .slice q.supA q.sup.length q.supC, .slice q.sugA q.sug.length q.sugC, .slice q.enhA q.enh.length q.enhC, .slice q.filesA q.files.length q.filesC] 51) |>.alloc (by simp; omega) (.cells #[.string (bs d.name), .int .u8 d.op, .int .i64 d.evr.epoch, .string (bs d.evr.ver), .string (bs d.evr.rel)] 37)
  have hP : PkAt (((w0.alloc (.cells #[.string p.name, .int .i64 p.epoch, .string p.ver, .string p.rel, .int .u8 p.arch, .string p.vendor, .slice p.provA p.prov.length p.provC, .slice p.reqA p.req.length p.reqC, .slice p.conA p.con.length p.conC, .slice p.obsA p.obs.length p.obsC, .slice p.rcmA p.rcm.length p.rcmC, .slice p.supA p.sup.length p.supC, .slice p.sugA p.sug.length p.sugC, .slice p.enhA p.enh.length p.enhC, .slice p.filesA p.files.length p.filesC] 51)).alloc (.cells #[.string q.name, .int .i64 q.epoch, .string q.ver, .string q.rel, .int .u8 q.arch, .string q.vendor, .slice q.provA q.prov.length q.provC, .slice q.reqA q.req.length q.reqC, .slice q.conA q.con.length q.conC, .slice q.obsA q.obs.length q.obsC, .slice q.rcmA q.rcm.length q.rcmC, .slice q.supA q.sup.length q.supC, .slice q.sugA q.sug.length q.sugC, .slice q.enhA q.enh.length q.enhC, .slice q.filesA q.files.length q.filesC] 51)).alloc (.cells #[.string (bs d.name), .int .u8 d.op, .int .i64 d.evr.epoch, .string (bs d.evr.ver), .string (bs d.evr.rel)] 37)) w0.heap.size p := ((PkAt.new w0 p).calls ((Below.refl _ _).alloc (Nat.le_refl _) _)).calls ((Below.refl _ _).alloc (Nat.le_refl _) _)
  have hQ : PkAt (((w0.alloc (.cells #[.string p.name, .int .i64 p.epoch, .string p.ver, .string p.rel, .int .u8 p.arch, .string p.vendor, .slice p.provA p.prov.length p.provC, .slice p.reqA p.req.length p.reqC, .slice p.conA p.con.length p.conC, .slice p.obsA p.obs.length p.obsC, .slice p.rcmA p.rcm.length p.rcmC, .slice p.supA p.sup.length p.supC, .slice p.sugA p.sug.length p.sugC, .slice p.enhA p.enh.length p.enhC, .slice p.filesA p.files.length p.filesC] 51)).alloc (.cells #[.string q.name, .int .i64 q.epoch, .string q.ver, .string q.rel, .int .u8 q.arch, .string q.vendor, .slice q.provA q.prov.length q.provC, .slice q.reqA q.req.length q.reqC, .slice q.conA q.con.length q.conC, .slice q.obsA q.obs.length q.obsC, .slice q.rcmA q.rcm.length q.rcmC, .slice q.supA q.sup.length q.supC, .slice q.sugA q.sug.length q.sugC, .slice q.enhA q.enh.length q.enhC, .slice q.filesA q.files.length q.filesC] 51)).alloc (.cells #[.string (bs d.name), .int .u8 d.op, .int .i64 d.evr.epoch, .string (bs d.evr.ver), .string (bs d.evr.rel)] 37)) (w0.heap.size + 1) q := by have h := (PkAt.new (w0.alloc (.cells #[.string p.name, .int .i64 p.epoch, .string p.ver, .string p.rel, .int .u8 p.arch, .string p.vendor, .slice p.provA p.prov.length p.provC, .slice p.reqA p.req.length p.reqC, .slice p.conA p.con.length p.conC, .slice p.obsA p.obs.length p.obsC, .slice p.rcmA p.rcm.length p.rcmC, .slice p.supA p.sup.length p.supC, .slice p.sugA p.sug.length p.sugC, .slice p.enhA p.enh.length p.enhC, .slice p.filesA p.files.length p.filesC] 51)) q).calls ((Below.refl _ _).alloc (Nat.le_refl _) (.cells #[.string (bs d.name), .int .u8 d.op, .int .i64 d.evr.epoch, .string (bs d.evr.ver), .string (bs d.evr.rel)] 37)); rw [show (w0.alloc (.cells #[.string p.name, .int .i64 p.epoch, .string p.ver, .string p.rel, .int .u8 p.arch, .string p.vendor, .slice p.provA p.prov.length p.provC, .slice p.reqA p.req.length p.reqC, .slice p.conA p.con.length p.conC, .slice p.obsA p.obs.length p.obsC, .slice p.rcmA p.rcm.length p.rcmC, .slice p.supA p.sup.length p.supC, .slice p.sugA p.sug.length p.sugC, .slice p.enhA p.enh.length p.enhC, .slice p.filesA p.files.length p.filesC] 51)).heap.size = w0.heap.size + 1 from by simp] at h; exact h
  have hD : DpAt (((w0.alloc (.cells #[.string p.name, .int .i64 p.epoch, .string p.ver, .string p.rel, .int .u8 p.arch, .string p.vendor, .slice p.provA p.prov.length p.provC, .slice p.reqA p.req.length p.reqC, .slice p.conA p.con.length p.conC, .slice p.obsA p.obs.length p.obsC, .slice p.rcmA p.rcm.length p.rcmC, .slice p.supA p.sup.length p.supC, .slice p.sugA p.sug.length p.sugC, .slice p.enhA p.enh.length p.enhC, .slice p.filesA p.files.length p.filesC] 51)).alloc (.cells #[.string q.name, .int .i64 q.epoch, .string q.ver, .string q.rel, .int .u8 q.arch, .string q.vendor, .slice q.provA q.prov.length q.provC, .slice q.reqA q.req.length q.reqC, .slice q.conA q.con.length q.conC, .slice q.obsA q.obs.length q.obsC, .slice q.rcmA q.rcm.length q.rcmC, .slice q.supA q.sup.length q.supC, .slice q.sugA q.sug.length q.sugC, .slice q.enhA q.enh.length q.enhC, .slice q.filesA q.files.length q.filesC] 51)).alloc (.cells #[.string (bs d.name), .int .u8 d.op, .int .i64 d.evr.epoch, .string (bs d.evr.ver), .string (bs d.evr.rel)] 37)) (w0.heap.size + 2) d := by have h := DpAt.new ((w0.alloc (.cells #[.string p.name, .int .i64 p.epoch, .string p.ver, .string p.rel, .int .u8 p.arch, .string p.vendor, .slice p.provA p.prov.length p.provC, .slice p.reqA p.req.length p.reqC, .slice p.conA p.con.length p.conC, .slice p.obsA p.obs.length p.obsC, .slice p.rcmA p.rcm.length p.rcmC, .slice p.supA p.sup.length p.supC, .slice p.sugA p.sug.length p.sugC, .slice p.enhA p.enh.length p.enhC, .slice p.filesA p.files.length p.filesC] 51)).alloc (.cells #[.string q.name, .int .i64 q.epoch, .string q.ver, .string q.rel, .int .u8 q.arch, .string q.vendor, .slice q.provA q.prov.length q.provC, .slice q.reqA q.req.length q.reqC, .slice q.conA q.con.length q.conC, .slice q.obsA q.obs.length q.obsC, .slice q.rcmA q.rcm.length q.rcmC, .slice q.supA q.sup.length q.supC, .slice q.sugA q.sug.length q.sugC, .slice q.enhA q.enh.length q.enhC, .slice q.filesA q.files.length q.filesC] 51)) d; rw [show ((w0.alloc (.cells #[.string p.name, .int .i64 p.epoch, .string p.ver, .string p.rel, .int .u8 p.arch, .string p.vendor, .slice p.provA p.prov.length p.provC, .slice p.reqA p.req.length p.reqC, .slice p.conA p.con.length p.conC, .slice p.obsA p.obs.length p.obsC, .slice p.rcmA p.rcm.length p.rcmC, .slice p.supA p.sup.length p.supC, .slice p.sugA p.sug.length p.sugC, .slice p.enhA p.enh.length p.enhC, .slice p.filesA p.files.length p.filesC] 51)).alloc (.cells #[.string q.name, .int .i64 q.epoch, .string q.ver, .string q.rel, .int .u8 q.arch, .string q.vendor, .slice q.provA q.prov.length q.provC, .slice q.reqA q.req.length q.reqC, .slice q.conA q.con.length q.conC, .slice q.obsA q.obs.length q.obsC, .slice q.rcmA q.rcm.length q.rcmC, .slice q.supA q.sup.length q.supC, .slice q.sugA q.sug.length q.sugC, .slice q.enhA q.enh.length q.enhC, .slice q.filesA q.files.length q.filesC] 51)).heap.size = w0.heap.size + 2 from by simp] at h; exact h
  clear hI hp hq hdw s1 s2
  unfold LargePost at LP LQ
  unfold Pk.val Dp.val at *
  unfold Pk.ownD Pk.evr at OW NO PO
  dsimp only at OW NO PO
  simp only [bs_of] at OW NO PO
  go_enter Tryd.func8, Tryd.ntmps8
  go_wp2_with fail
  go_at_call 27
  generalize (((w0.alloc (.cells #[.string p.name, .int .i64 p.epoch, .string p.ver, .string p.rel, .int .u8 p.arch, .string p.vendor, .slice p.provA p.prov.length p.provC, .slice p.reqA p.req.length p.reqC, .slice p.conA p.con.length p.conC, .slice p.obsA p.obs.length p.obsC, .slice p.rcmA p.rcm.length p.rcmC, .slice p.supA p.sup.length p.supC, .slice p.sugA p.sug.length p.sugC, .slice p.enhA p.enh.length p.enhC, .slice p.filesA p.files.length p.filesC] 51)).alloc (.cells #[.string q.name, .int .i64 q.epoch, .string q.ver, .string q.rel, .int .u8 q.arch, .string q.vendor, .slice q.provA q.prov.length q.provC, .slice q.reqA q.req.length q.reqC, .slice q.conA q.con.length q.conC, .slice q.obsA q.obs.length q.obsC, .slice q.rcmA q.rcm.length q.rcmC, .slice q.supA q.sup.length q.supC, .slice q.sugA q.sug.length q.sugC, .slice q.enhA q.enh.length q.enhC, .slice q.filesA q.files.length q.filesC] 51)).alloc (.cells #[.string (bs d.name), .int .u8 d.op, .int .i64 d.evr.epoch, .string (bs d.evr.ver), .string (bs d.evr.rel)] 37)) = V at *
  refine (LP.out _ B0).mono ?_
  rintro e w1 ⟨r1, rfl, SP, h⟩
  have B0 := B0.trans (h.mono B0.size)
  have hP := hP.calls h
  have hQ := hQ.calls h
  have hD := hD.calls h
  clear h
  have SP := Lib.hid SP
  cases r1
  rotate_left
  ·
    as_aux_lemma =>
      clear LP LQ OQ OW NO PO ND PD NK HL HN hP hQ hD DOK
      go_wp2_with fail
      go_at_call 28
      refine (AW.out _ B0).mono ?_
      rintro e w9 ⟨rfl, h⟩
      have B0 := B0.trans (h.mono B0.size)
      go_wp2
      go_ret
      exact ⟨rfl, B0⟩
  as_aux_lemma =>
    obtain ⟨_, c0, c1, c2, c3, c4, c5, c6, c7, c8, c9, c10, c11, c12, c13, c14⟩ := id hQ
    go_wp2_with fail
    go_at_call 27
    refine (LQ.out _ B0).mono ?_
    rintro e w1 ⟨r1, rfl, SQ, h⟩
    have B0 := B0.trans (h.mono B0.size)
    have hP := hP.calls h
    have hQ := hQ.calls h
    have hD := hD.calls h
    clear h
    clear c0 c1 c2 c3 c4 c5 c6 c7 c8 c9 c10 c11 c12 c13 c14
    have SQ := Lib.hid SQ
    cases r1
    rotate_left
    ·
      as_aux_lemma =>
        clear LP LQ OQ OW NO PO ND PD NK HL HN hP hQ hD DOK
        go_wp2_with fail
        go_at_call 28
        refine (AW.out _ B0).mono ?_
        rintro e w9 ⟨rfl, h⟩
        have B0 := B0.trans (h.mono B0.size)
        go_wp2
        go_ret
        exact ⟨rfl, B0⟩
    as_aux_lemma =>
      have SP := Lib.hid (SP.out (by trivial))
      have SQ := Lib.hid (SQ.out (by trivial))
      obtain ⟨_, d0, d1, d2, d3, d4⟩ := id hD
      have z2 := bs_size d.name
      have z3 := bs_size d.evr.ver
      have zr : reachBytes = 140737488351232 := rfl
      have hz : IntKind.i64.wrap (((bs d.name).size : Int) + ((bs d.evr.ver).size : Int)) = ((bs d.name).size : Int) + ((bs d.evr.ver).size : Int) := IntWalk.i64_in _ (by omega)
      by_cases k0 : (1000 : Int) < ((bs d.name).size : Int) + ((bs d.evr.ver).size : Int)
      ·
        as_aux_lemma =>
          clear LP LQ OQ OW NO PO ND PD NK HL HN hP hQ hD DOK
          go_wp2_with fail
          go_at_call 28
          refine (AW.out _ B0).mono ?_
          rintro e w9 ⟨rfl, h⟩
          have B0 := B0.trans (h.mono B0.size)
          go_wp2
          go_ret
          exact ⟨rfl, B0⟩
      by_cases k1 : (1000 : Int) < ((bs d.evr.rel).size : Int)
      ·
        as_aux_lemma =>
          clear LP LQ OQ OW NO PO ND PD NK HL HN hP hQ hD DOK
          go_wp2_with fail
          go_at_call 28
          refine (AW.out _ B0).mono ?_
          rintro e w9 ⟨rfl, h⟩
          have B0 := B0.trans (h.mono B0.size)
          go_wp2
          go_ret
          exact ⟨rfl, B0⟩
      as_aux_lemma =>
        have dok := Lib.hid (DOK.out (by omega) (by omega))
        clear DOK z0 z1 z2 z3 zr LP LQ
        have OQ := Lib.hid (OQ.out SP.out SQ.out)
        have NO := Lib.hid (NO.out SP.out)
        have PO := Lib.hid (PO.out SP.out)
        have ND := Lib.hid (ND.out SP.out dok.out)
        have PD := Lib.hid (PD.out SP.out dok.out)
        have NK := Lib.hid (NK.out SP.out SQ.out)
        have LN := Lib.hid SP.out.obsN
        clear SP SQ dok
        generalize meetsN p.ownD d = b2 at *
        generalize provB p d = b3 at *
        go_wp2_with fail
        go_at_call 28
        refine (AW.out _ B0).mono ?_
        rintro e w1 ⟨rfl, h⟩
        have B0 := B0.trans (h.mono B0.size)
        have hP := hP.calls h
        have hQ := hQ.calls h
        have hD := hD.calls h
        clear h
        clear d0 d1 d2 d3 d4
        clear AW
        as_aux_lemma =>
          obtain ⟨N, hN⟩ : ∃ N, N = p.obs.length := ⟨_, rfl⟩
          have HNN := Lib.hid hN
          rw [← hN] at LN
          obtain ⟨_, c0, c1, c2, c3, c4, c5, c6, c7, c8, c9, c10, c11, c12, c13, c14⟩ := id hP
          rw [← hN] at c9
          have B1 := Lib.hid B0
          clear hN B0
          go_wp2_with fail
          go_loopw [7, 8] (fun s i wr => ∃ k : Nat, k ≤ N ∧ i = .int .i64 (k : Int) ∧ s = .bool ((p.obs.take k).any fun d => meetsN q.ownD d) ∧ Below w1.heap.size w1 wr) (fun _ i _ => N - (intOf i).toNat)
          case atStart => exact ⟨0, by omega, rfl, rfl, Below.refl _ _⟩
          case round =>
            clear c0 c1 c2 c3 c4 c5 c6 c7 c8 c9 c10 c11 c12 c13 c14
            obtain ⟨k, hk, rfl, rfl, hB⟩ := hrel
            rename World => wr
            have hPr := hP.calls hB
            have hQr := hQ.calls hB
            have hBr := B1.out.trans (hB.mono B1.out.size)
            obtain ⟨_, c0, c1, c2, c3, c4, c5, c6, c7, c8, c9, c10, c11, c12, c13, c14⟩ := id hPr
            rw [← HNN.out] at c9
            by_cases hlt : k < N
            · have hkl : k < p.obs.length := by have := HNN.out; omega
              have HT := Lib.hid (show ((p.obs.take (k + 1)).any fun d => meetsN q.ownD d) = (((p.obs.take k).any fun d => meetsN q.ownD d) || meetsN q.ownD p.obs[k]) from any_take _ _ hkl)
              obtain ⟨b, o, hA, hb, e0, e1, e2, e3, e4⟩ := (HL.out.below hBr).dep_at hkl
              rw [hA] at c9
              clear hA
              have NM := Lib.hid (NK.out k hkl)
              generalize ((p.obs.take k).any fun d => meetsN q.ownD d) = sm at *
              generalize p.obs[k] = dk at *
              generalize meetsN q.ownD dk = rk at *
              have i0 : (0 : Int) ≤ (k : Int) := by omega
              have i1 : (k : Int) < (N : Int) := by omega
              have LN2 := LN.out
              cases sm
              · obtain ⟨lq, q0, q1, q2, q3, q4, q5, q6, q7, q8, q9, q10, q11, q12, q13, q14⟩ := id hQr
                have lb : b < wr.heap.size := Nat.lt_of_lt_of_le hb hBr.size
                go_wp2_with fail
                go_region_held3 (fun W => W.cell? ⟨w0.heap.size + 1, 0, none⟩ = some (.string q.name) ∧ W.cell? ⟨w0.heap.size + 1, 1, none⟩ = some (.int .i64 q.epoch) ∧ W.cell? ⟨w0.heap.size + 1, 2, none⟩ = some (.string q.ver) ∧ W.cell? ⟨w0.heap.size + 1, 3, none⟩ = some (.string q.rel) ∧ W.cell? ⟨w0.heap.size + 1, 4, none⟩ = some (.int .u8 q.arch) ∧ W.cell? ⟨w0.heap.size + 1, 5, none⟩ = some (.string q.vendor) ∧ W.cell? ⟨w0.heap.size + 1, 6, none⟩ = some (.slice q.provA q.prov.length q.provC) ∧ W.cell? ⟨w0.heap.size + 1, 7, none⟩ = some (.slice q.reqA q.req.length q.reqC) ∧ W.cell? ⟨w0.heap.size + 1, 8, none⟩ = some (.slice q.conA q.con.length q.conC) ∧ W.cell? ⟨w0.heap.size + 1, 9, none⟩ = some (.slice q.obsA q.obs.length q.obsC) ∧ W.cell? ⟨w0.heap.size + 1, 10, none⟩ = some (.slice q.rcmA q.rcm.length q.rcmC) ∧ W.cell? ⟨w0.heap.size + 1, 11, none⟩ = some (.slice q.supA q.sup.length q.supC) ∧ W.cell? ⟨w0.heap.size + 1, 12, none⟩ = some (.slice q.sugA q.sug.length q.sugC) ∧ W.cell? ⟨w0.heap.size + 1, 13, none⟩ = some (.slice q.enhA q.enh.length q.enhC) ∧ W.cell? ⟨w0.heap.size + 1, 14, none⟩ = some (.slice q.filesA q.files.length q.filesC) ∧ W.cell? ⟨w0.heap.size, 9, none⟩ = some (.slice (some ⟨b, o, none⟩) N p.obsC) ∧ W.cell? ⟨b, o + k * 5, none⟩ = some (.string (bs dk.name)) ∧ W.cell? ⟨b, o + k * 5 + 1, none⟩ = some (.int .u8 dk.op) ∧ W.cell? ⟨b, o + k * 5 + 2, none⟩ = some (.int .i64 dk.evr.epoch) ∧ W.cell? ⟨b, o + k * 5 + 3, none⟩ = some (.string (bs dk.evr.ver)) ∧ W.cell? ⟨b, o + k * 5 + 4, none⟩ = some (.string (bs dk.evr.rel)) ∧ w0.heap.size + 1 < W.heap.size ∧ b < W.heap.size ∧ Below wr.heap.size wr W) (first | exact keep_it (by assumption) hbb | exact ⟨q0, q1, q2, q3, q4, q5, q6, q7, q8, q9, q10, q11, q12, q13, q14, c9, e0, e1, e2, e3, e4, lq, lb, (Below.refl _ _).drew⟩ | go_keep) (first | (go_at_call 34; ((with_reducible refine (NM.out _).mono ?_); rintro e w' ⟨rfl, hbb⟩)))
                rename_i hh
                have hT := tail_it hh
                clear q0 q1 q2 q3 q4 q5 q6 q7 q8 q9 q10 q11 q12 q13 q14 c9 e0 e1 e2 e3 e4 lq lb c0 c1 c2 c3 c4 c5 c6 c7 c8 c10 c11 c12 c13 c14 hh
                go_wp2_with fail
                go_roundw
                case rel => exact ⟨k + 1, by omega, by go_num, by rw [HT.out]; rfl, hB.trans (hT.mono hB.size)⟩
                case measure => first | (simp [intOf]; done) | (simp [intOf]; omega)
              · go_wp2_with fail
                go_quiet (fail)
                go_wp2_with fail
                go_roundw
                case rel => exact ⟨k + 1, by omega, by go_num, by rw [HT.out]; rfl, below_drewNm hB⟩
                case measure => first | (simp [intOf]; done) | (simp [intOf]; omega)
            · have i1 : ¬ (k : Int) < (N : Int) := by omega
              obtain rfl : k = N := by omega
              rw [List.take_of_length_le (by have := HNN.out; omega)]
              have hDr := hD.calls hB
              skip
              have hN2 := HNN.out
              clear HNN hk hlt i1 LN
              subst hN2
              generalize (p.obs.any fun d => meetsN q.ownD d) = b1 at *
              have B0 := hBr
              have hP := hPr
              have hQ := hQr
              have hD := hDr
              clear hPr hQr hDr hBr hB B1 HL NK
              go_wp2_with fail
              go_at_call 35
              refine (OW.out _).mono ?_
              rintro e w5 ⟨rfl, h⟩
              clear c0 c1 c2 c3 c4 c5 c6 c7 c8 c9 c10 c11 c12 c13 c14
              have B0 := B0.trans (h.mono B0.size)
              have hP := hP.calls h
              have hQ := hQ.calls h
              have hD := hD.calls h
              clear h
              have hO := FiveAt.new w5 (.string p.name) (.int .u8 2) (.int .i64 p.epoch) (.string p.ver) (.string p.rel) 37
              have al := (Below.refl w5.heap.size w5).alloc (Nat.le_refl _) (.cells #[.string p.name, .int .u8 2, .int .i64 p.epoch, .string p.ver, .string p.rel] 37)
              have B0 := B0.trans (al.mono B0.size)
              have hP := hP.calls al
              have hQ := hQ.calls al
              have hD := hD.calls al
              clear al
              skip
              obtain ⟨_, c0, c1, c2, c3, c4, c5, c6, c7, c8, c9, c10, c11, c12, c13, c14⟩ := id hP
              obtain ⟨_, d0, d1, d2, d3, d4⟩ := id hD
              obtain ⟨_, o0, o1, o2, o3, o4⟩ := id hO
              obtain ⟨_, q0, q1, q2, q3, q4, q5, q6, q7, q8, q9, q10, q11, q12, q13, q14⟩ := id hQ
              go_wp2_with fail
              go_at_call 36
              refine (PO.out _ B0).mono ?_
              rintro e w6 ⟨rfl, h⟩
              clear c0 c1 c2 c3 c4 c5 c6 c7 c8 c9 c10 c11 c12 c13 c14
              clear d0 d1 d2 d3 d4
              clear o0 o1 o2 o3 o4
              clear q0 q1 q2 q3 q4 q5 q6 q7 q8 q9 q10 q11 q12 q13 q14
              have hO := hO.calls h
              have B0 := B0.trans (h.mono B0.size)
              have hP := hP.calls h
              have hQ := hQ.calls h
              have hD := hD.calls h
              clear h
              as_aux_lemma =>
                obtain ⟨_, c0, c1, c2, c3, c4, c5, c6, c7, c8, c9, c10, c11, c12, c13, c14⟩ := id hP
                obtain ⟨_, d0, d1, d2, d3, d4⟩ := id hD
                obtain ⟨_, o0, o1, o2, o3, o4⟩ := id hO
                obtain ⟨_, q0, q1, q2, q3, q4, q5, q6, q7, q8, q9, q10, q11, q12, q13, q14⟩ := id hQ
                go_wp2_with fail
                go_at_call 34
                refine (NO.out _).mono ?_
                rintro e w6 ⟨rfl, h⟩
                clear c0 c1 c2 c3 c4 c5 c6 c7 c8 c9 c10 c11 c12 c13 c14
                clear d0 d1 d2 d3 d4
                clear o0 o1 o2 o3 o4
                clear q0 q1 q2 q3 q4 q5 q6 q7 q8 q9 q10 q11 q12 q13 q14
                have hO := hO.calls h
                have B0 := B0.trans (h.mono B0.size)
                have hP := hP.calls h
                have hQ := hQ.calls h
                have hD := hD.calls h
                clear h
                obtain ⟨_, c0, c1, c2, c3, c4, c5, c6, c7, c8, c9, c10, c11, c12, c13, c14⟩ := id hP
                obtain ⟨_, d0, d1, d2, d3, d4⟩ := id hD
                obtain ⟨_, o0, o1, o2, o3, o4⟩ := id hO
                obtain ⟨_, q0, q1, q2, q3, q4, q5, q6, q7, q8, q9, q10, q11, q12, q13, q14⟩ := id hQ
                go_wp2_with fail
                go_at_call 34
                refine (ND.out _).mono ?_
                rintro e w6 ⟨rfl, h⟩
                clear c0 c1 c2 c3 c4 c5 c6 c7 c8 c9 c10 c11 c12 c13 c14
                clear d0 d1 d2 d3 d4
                clear o0 o1 o2 o3 o4
                clear q0 q1 q2 q3 q4 q5 q6 q7 q8 q9 q10 q11 q12 q13 q14
                have hO := hO.calls h
                have B0 := B0.trans (h.mono B0.size)
                have hP := hP.calls h
                have hQ := hQ.calls h
                have hD := hD.calls h
                clear h
                as_aux_lemma =>
                  cases b2
                  ·
                    obtain ⟨_, c0, c1, c2, c3, c4, c5, c6, c7, c8, c9, c10, c11, c12, c13, c14⟩ := id hP
                    obtain ⟨_, d0, d1, d2, d3, d4⟩ := id hD
                    obtain ⟨_, o0, o1, o2, o3, o4⟩ := id hO
                    obtain ⟨_, q0, q1, q2, q3, q4, q5, q6, q7, q8, q9, q10, q11, q12, q13, q14⟩ := id hQ
                    go_wp2_with fail
                    go_at_call 33
                    refine (OQ.out _ B0).mono ?_
                    rintro e w6 ⟨rfl, h⟩
                    clear c0 c1 c2 c3 c4 c5 c6 c7 c8 c9 c10 c11 c12 c13 c14
                    clear d0 d1 d2 d3 d4
                    clear o0 o1 o2 o3 o4
                    clear q0 q1 q2 q3 q4 q5 q6 q7 q8 q9 q10 q11 q12 q13 q14
                    have hO := hO.calls h
                    have B0 := B0.trans (h.mono B0.size)
                    have hP := hP.calls h
                    have hQ := hQ.calls h
                    have hD := hD.calls h
                    clear h
                    go_wp2
                    go_ret
                    exact ⟨by simp, B0⟩
                  · obtain rfl : b3 = true := HN.out rfl
                    obtain ⟨_, c0, c1, c2, c3, c4, c5, c6, c7, c8, c9, c10, c11, c12, c13, c14⟩ := id hP
                    obtain ⟨_, d0, d1, d2, d3, d4⟩ := id hD
                    obtain ⟨_, o0, o1, o2, o3, o4⟩ := id hO
                    obtain ⟨_, q0, q1, q2, q3, q4, q5, q6, q7, q8, q9, q10, q11, q12, q13, q14⟩ := id hQ
                    go_wp2_with fail
                    go_at_call 36
                    refine (PD.out _ B0).mono ?_
                    rintro e w6 ⟨rfl, h⟩
                    clear c0 c1 c2 c3 c4 c5 c6 c7 c8 c9 c10 c11 c12 c13 c14
                    clear d0 d1 d2 d3 d4
                    clear o0 o1 o2 o3 o4
                    clear q0 q1 q2 q3 q4 q5 q6 q7 q8 q9 q10 q11 q12 q13 q14
                    have hO := hO.calls h
                    have B0 := B0.trans (h.mono B0.size)
                    have hP := hP.calls h
                    have hQ := hQ.calls h
                    have hD := hD.calls h
                    clear h
                    obtain ⟨_, c0, c1, c2, c3, c4, c5, c6, c7, c8, c9, c10, c11, c12, c13, c14⟩ := id hP
                    obtain ⟨_, d0, d1, d2, d3, d4⟩ := id hD
                    obtain ⟨_, o0, o1, o2, o3, o4⟩ := id hO
                    obtain ⟨_, q0, q1, q2, q3, q4, q5, q6, q7, q8, q9, q10, q11, q12, q13, q14⟩ := id hQ
                    go_wp2_with fail
                    go_at_call 33
                    refine (OQ.out _ B0).mono ?_
                    rintro e w6 ⟨rfl, h⟩
                    clear c0 c1 c2 c3 c4 c5 c6 c7 c8 c9 c10 c11 c12 c13 c14
                    clear d0 d1 d2 d3 d4
                    clear o0 o1 o2 o3 o4
                    clear q0 q1 q2 q3 q4 q5 q6 q7 q8 q9 q10 q11 q12 q13 q14
                    have hO := hO.calls h
                    have B0 := B0.trans (h.mono B0.size)
                    have hP := hP.calls h
                    have hQ := hQ.calls h
                    have hD := hD.calls h
                    clear h
                    go_wp2
                    go_ret
                    exact ⟨by simp, B0⟩
end Go.Proofs.YtinidiiachedbaaDoor
