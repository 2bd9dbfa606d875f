/- PkgByName, walked. -/
import Derived.Test.YtinidiiachedbaaDoorPkLarge
import Derived.Test.YtinidiiachedbaaDoorPkAwake
import Derived.Deep.RegionHeld3
namespace Go.Proofs.YtinidiiachedbaaDoor
open Go.RowKit Go.Shelf
set_option linter.unusedVariables false

/-- one package with another one's name and EVR -/
def Pk.as (r q : Pk) : Pk := { r with name := q.name, epoch := q.epoch, ver := q.ver, rel := q.rel }
theorem as_own (r q : Pk) : (r.as q).ownD = q.ownD := rfl
theorem small_evok {p : Pk} (h : p.small) : p.evr.ok := ⟨by show p.ver.toList.length ≤ 1000000; rw [size_toList]; have := h.ver; omega, by show p.rel.toList.length ≤ 1000000; rw [size_toList]; have := h.rel; omega⟩
theorem keep_bn {p q r : Pk} {d : Dp} {bp bq bx bd : Nat} {w W W' : World} (h : W.cell? ⟨bp, 0, none⟩ = some (.string p.name) ∧ W.cell? ⟨bp, 1, none⟩ = some (.int .i64 p.epoch) ∧ W.cell? ⟨bp, 2, none⟩ = some (.string p.ver) ∧ W.cell? ⟨bp, 3, none⟩ = some (.string p.rel) ∧ W.cell? ⟨bp, 4, none⟩ = some (.int .u8 p.arch) ∧ W.cell? ⟨bp, 5, none⟩ = some (.string p.vendor) ∧ W.cell? ⟨bp, 6, none⟩ = some (.slice p.provA p.prov.length p.provC) ∧ W.cell? ⟨bp, 7, none⟩ = some (.slice p.reqA p.req.length p.reqC) ∧ W.cell? ⟨bp, 8, none⟩ = some (.slice p.conA p.con.length p.conC) ∧ W.cell? ⟨bp, 9, none⟩ = some (.slice p.obsA p.obs.length p.obsC) ∧ W.cell? ⟨bp, 10, none⟩ = some (.slice p.rcmA p.rcm.length p.rcmC) ∧ W.cell? ⟨bp, 11, none⟩ = some (.slice p.supA p.sup.length p.supC) ∧ W.cell? ⟨bp, 12, none⟩ = some (.slice p.sugA p.sug.length p.sugC) ∧ W.cell? ⟨bp, 13, none⟩ = some (.slice p.enhA p.enh.length p.enhC) ∧ W.cell? ⟨bp, 14, none⟩ = some (.slice p.filesA p.files.length p.filesC) ∧ W.cell? ⟨bq, 0, none⟩ = some (.string q.name) ∧ W.cell? ⟨bq, 1, none⟩ = some (.int .i64 q.epoch) ∧ W.cell? ⟨bq, 2, none⟩ = some (.string q.ver) ∧ W.cell? ⟨bq, 3, none⟩ = some (.string q.rel) ∧ W.cell? ⟨bq, 4, none⟩ = some (.int .u8 q.arch) ∧ W.cell? ⟨bq, 5, none⟩ = some (.string q.vendor) ∧ W.cell? ⟨bq, 6, none⟩ = some (.slice q.provA q.prov.length q.provC) ∧ W.cell? ⟨bq, 7, none⟩ = some (.slice q.reqA q.req.length q.reqC) ∧ W.cell? ⟨bq, 8, none⟩ = some (.slice q.conA q.con.length q.conC) ∧ W.cell? ⟨bq, 9, none⟩ = some (.slice q.obsA q.obs.length q.obsC) ∧ W.cell? ⟨bq, 10, none⟩ = some (.slice q.rcmA q.rcm.length q.rcmC) ∧ W.cell? ⟨bq, 11, none⟩ = some (.slice q.supA q.sup.length q.supC) ∧ W.cell? ⟨bq, 12, none⟩ = some (.slice q.sugA q.sug.length q.sugC) ∧ W.cell? ⟨bq, 13, none⟩ = some (.slice q.enhA q.enh.length q.enhC) ∧ W.cell? ⟨bq, 14, none⟩ = some (.slice q.filesA q.files.length q.filesC) ∧ W.cell? ⟨bx, 0, none⟩ = some (.string q.name) ∧ W.cell? ⟨bx, 1, none⟩ = some (.int .i64 q.epoch) ∧ W.cell? ⟨bx, 2, none⟩ = some (.string q.ver) ∧ W.cell? ⟨bx, 3, none⟩ = some (.string q.rel) ∧ W.cell? ⟨bx, 4, none⟩ = some (.int .u8 r.arch) ∧ W.cell? ⟨bx, 5, none⟩ = some (.string r.vendor) ∧ W.cell? ⟨bx, 6, none⟩ = some (.slice r.provA r.prov.length r.provC) ∧ W.cell? ⟨bx, 7, none⟩ = some (.slice r.reqA r.req.length r.reqC) ∧ W.cell? ⟨bx, 8, none⟩ = some (.slice r.conA r.con.length r.conC) ∧ W.cell? ⟨bx, 9, none⟩ = some (.slice r.obsA r.obs.length r.obsC) ∧ W.cell? ⟨bx, 10, none⟩ = some (.slice r.rcmA r.rcm.length r.rcmC) ∧ W.cell? ⟨bx, 11, none⟩ = some (.slice r.supA r.sup.length r.supC) ∧ W.cell? ⟨bx, 12, none⟩ = some (.slice r.sugA r.sug.length r.sugC) ∧ W.cell? ⟨bx, 13, none⟩ = some (.slice r.enhA r.enh.length r.enhC) ∧ W.cell? ⟨bx, 14, none⟩ = some (.slice r.filesA r.files.length r.filesC) ∧ W.cell? ⟨bd, 0, none⟩ = some (.string (bs d.name)) ∧ W.cell? ⟨bd, 1, none⟩ = some (.int .u8 d.op) ∧ W.cell? ⟨bd, 2, none⟩ = some (.int .i64 d.evr.epoch) ∧ W.cell? ⟨bd, 3, none⟩ = some (.string (bs d.evr.ver)) ∧ W.cell? ⟨bd, 4, none⟩ = some (.string (bs d.evr.rel)) ∧ bp < W.heap.size ∧ bq < W.heap.size ∧ bx < W.heap.size ∧ bd < W.heap.size ∧ Below w.heap.size w W) (hb : Below W.heap.size W W') :
    W'.cell? ⟨bp, 0, none⟩ = some (.string p.name) ∧ W'.cell? ⟨bp, 1, none⟩ = some (.int .i64 p.epoch) ∧ W'.cell? ⟨bp, 2, none⟩ = some (.string p.ver) ∧ W'.cell? ⟨bp, 3, none⟩ = some (.string p.rel) ∧ W'.cell? ⟨bp, 4, none⟩ = some (.int .u8 p.arch) ∧ W'.cell? ⟨bp, 5, none⟩ = some (.string p.vendor) ∧ W'.cell? ⟨bp, 6, none⟩ = some (.slice p.provA p.prov.length p.provC) ∧ W'.cell? ⟨bp, 7, none⟩ = some (.slice p.reqA p.req.length p.reqC) ∧ W'.cell? ⟨bp, 8, none⟩ = some (.slice p.conA p.con.length p.conC) ∧ W'.cell? ⟨bp, 9, none⟩ = some (.slice p.obsA p.obs.length p.obsC) ∧ W'.cell? ⟨bp, 10, none⟩ = some (.slice p.rcmA p.rcm.length p.rcmC) ∧ W'.cell? ⟨bp, 11, none⟩ = some (.slice p.supA p.sup.length p.supC) ∧ W'.cell? ⟨bp, 12, none⟩ = some (.slice p.sugA p.sug.length p.sugC) ∧ W'.cell? ⟨bp, 13, none⟩ = some (.slice p.enhA p.enh.length p.enhC) ∧ W'.cell? ⟨bp, 14, none⟩ = some (.slice p.filesA p.files.length p.filesC) ∧ W'.cell? ⟨bq, 0, none⟩ = some (.string q.name) ∧ W'.cell? ⟨bq, 1, none⟩ = some (.int .i64 q.epoch) ∧ W'.cell? ⟨bq, 2, none⟩ = some (.string q.ver) ∧ W'.cell? ⟨bq, 3, none⟩ = some (.string q.rel) ∧ W'.cell? ⟨bq, 4, none⟩ = some (.int .u8 q.arch) ∧ W'.cell? ⟨bq, 5, none⟩ = some (.string q.vendor) ∧ W'.cell? ⟨bq, 6, none⟩ = some (.slice q.provA q.prov.length q.provC) ∧ W'.cell? ⟨bq, 7, none⟩ = some (.slice q.reqA q.req.length q.reqC) ∧ W'.cell? ⟨bq, 8, none⟩ = some (.slice q.conA q.con.length q.conC) ∧ W'.cell? ⟨bq, 9, none⟩ = some (.slice q.obsA q.obs.length q.obsC) ∧ W'.cell? ⟨bq, 10, none⟩ = some (.slice q.rcmA q.rcm.length q.rcmC) ∧ W'.cell? ⟨bq, 11, none⟩ = some (.slice q.supA q.sup.length q.supC) ∧ W'.cell? ⟨bq, 12, none⟩ = some (.slice q.sugA q.sug.length q.sugC) ∧ W'.cell? ⟨bq, 13, none⟩ = some (.slice q.enhA q.enh.length q.enhC) ∧ W'.cell? ⟨bq, 14, none⟩ = some (.slice q.filesA q.files.length q.filesC) ∧ W'.cell? ⟨bx, 0, none⟩ = some (.string q.name) ∧ W'.cell? ⟨bx, 1, none⟩ = some (.int .i64 q.epoch) ∧ W'.cell? ⟨bx, 2, none⟩ = some (.string q.ver) ∧ W'.cell? ⟨bx, 3, none⟩ = some (.string q.rel) ∧ W'.cell? ⟨bx, 4, none⟩ = some (.int .u8 r.arch) ∧ W'.cell? ⟨bx, 5, none⟩ = some (.string r.vendor) ∧ W'.cell? ⟨bx, 6, none⟩ = some (.slice r.provA r.prov.length r.provC) ∧ W'.cell? ⟨bx, 7, none⟩ = some (.slice r.reqA r.req.length r.reqC) ∧ W'.cell? ⟨bx, 8, none⟩ = some (.slice r.conA r.con.length r.conC) ∧ W'.cell? ⟨bx, 9, none⟩ = some (.slice r.obsA r.obs.length r.obsC) ∧ W'.cell? ⟨bx, 10, none⟩ = some (.slice r.rcmA r.rcm.length r.rcmC) ∧ W'.cell? ⟨bx, 11, none⟩ = some (.slice r.supA r.sup.length r.supC) ∧ W'.cell? ⟨bx, 12, none⟩ = some (.slice r.sugA r.sug.length r.sugC) ∧ W'.cell? ⟨bx, 13, none⟩ = some (.slice r.enhA r.enh.length r.enhC) ∧ W'.cell? ⟨bx, 14, none⟩ = some (.slice r.filesA r.files.length r.filesC) ∧ W'.cell? ⟨bd, 0, none⟩ = some (.string (bs d.name)) ∧ W'.cell? ⟨bd, 1, none⟩ = some (.int .u8 d.op) ∧ W'.cell? ⟨bd, 2, none⟩ = some (.int .i64 d.evr.epoch) ∧ W'.cell? ⟨bd, 3, none⟩ = some (.string (bs d.evr.ver)) ∧ W'.cell? ⟨bd, 4, none⟩ = some (.string (bs d.evr.rel)) ∧ bp < W'.heap.size ∧ bq < W'.heap.size ∧ bx < W'.heap.size ∧ bd < W'.heap.size ∧ Below w.heap.size w W' := by
  obtain ⟨c0_0, c0_1, c0_2, c0_3, c0_4, c0_5, c0_6, c0_7, c0_8, c0_9, c0_10, c0_11, c0_12, c0_13, c0_14, c1_0, c1_1, c1_2, c1_3, c1_4, c1_5, c1_6, c1_7, c1_8, c1_9, c1_10, c1_11, c1_12, c1_13, c1_14, c2_0, c2_1, c2_2, c2_3, c2_4, c2_5, c2_6, c2_7, c2_8, c2_9, c2_10, c2_11, c2_12, c2_13, c2_14, c3_0, c3_1, c3_2, c3_3, c3_4, l0, l1, l2, l3, hB⟩ := h
  have hB_le := hB.size
  exact ⟨(hb.cell (p := ⟨bp, 0, none⟩) l0).trans c0_0, (hb.cell (p := ⟨bp, 1, none⟩) l0).trans c0_1, (hb.cell (p := ⟨bp, 2, none⟩) l0).trans c0_2, (hb.cell (p := ⟨bp, 3, none⟩) l0).trans c0_3, (hb.cell (p := ⟨bp, 4, none⟩) l0).trans c0_4, (hb.cell (p := ⟨bp, 5, none⟩) l0).trans c0_5, (hb.cell (p := ⟨bp, 6, none⟩) l0).trans c0_6, (hb.cell (p := ⟨bp, 7, none⟩) l0).trans c0_7, (hb.cell (p := ⟨bp, 8, none⟩) l0).trans c0_8, (hb.cell (p := ⟨bp, 9, none⟩) l0).trans c0_9, (hb.cell (p := ⟨bp, 10, none⟩) l0).trans c0_10, (hb.cell (p := ⟨bp, 11, none⟩) l0).trans c0_11, (hb.cell (p := ⟨bp, 12, none⟩) l0).trans c0_12, (hb.cell (p := ⟨bp, 13, none⟩) l0).trans c0_13, (hb.cell (p := ⟨bp, 14, none⟩) l0).trans c0_14, (hb.cell (p := ⟨bq, 0, none⟩) l1).trans c1_0, (hb.cell (p := ⟨bq, 1, none⟩) l1).trans c1_1, (hb.cell (p := ⟨bq, 2, none⟩) l1).trans c1_2, (hb.cell (p := ⟨bq, 3, none⟩) l1).trans c1_3, (hb.cell (p := ⟨bq, 4, none⟩) l1).trans c1_4, (hb.cell (p := ⟨bq, 5, none⟩) l1).trans c1_5, (hb.cell (p := ⟨bq, 6, none⟩) l1).trans c1_6, (hb.cell (p := ⟨bq, 7, none⟩) l1).trans c1_7, (hb.cell (p := ⟨bq, 8, none⟩) l1).trans c1_8, (hb.cell (p := ⟨bq, 9, none⟩) l1).trans c1_9, (hb.cell (p := ⟨bq, 10, none⟩) l1).trans c1_10, (hb.cell (p := ⟨bq, 11, none⟩) l1).trans c1_11, (hb.cell (p := ⟨bq, 12, none⟩) l1).trans c1_12, (hb.cell (p := ⟨bq, 13, none⟩) l1).trans c1_13, (hb.cell (p := ⟨bq, 14, none⟩) l1).trans c1_14, (hb.cell (p := ⟨bx, 0, none⟩) l2).trans c2_0, (hb.cell (p := ⟨bx, 1, none⟩) l2).trans c2_1, (hb.cell (p := ⟨bx, 2, none⟩) l2).trans c2_2, (hb.cell (p := ⟨bx, 3, none⟩) l2).trans c2_3, (hb.cell (p := ⟨bx, 4, none⟩) l2).trans c2_4, (hb.cell (p := ⟨bx, 5, none⟩) l2).trans c2_5, (hb.cell (p := ⟨bx, 6, none⟩) l2).trans c2_6, (hb.cell (p := ⟨bx, 7, none⟩) l2).trans c2_7, (hb.cell (p := ⟨bx, 8, none⟩) l2).trans c2_8, (hb.cell (p := ⟨bx, 9, none⟩) l2).trans c2_9, (hb.cell (p := ⟨bx, 10, none⟩) l2).trans c2_10, (hb.cell (p := ⟨bx, 11, none⟩) l2).trans c2_11, (hb.cell (p := ⟨bx, 12, none⟩) l2).trans c2_12, (hb.cell (p := ⟨bx, 13, none⟩) l2).trans c2_13, (hb.cell (p := ⟨bx, 14, none⟩) l2).trans c2_14, (hb.cell (p := ⟨bd, 0, none⟩) l3).trans c3_0, (hb.cell (p := ⟨bd, 1, none⟩) l3).trans c3_1, (hb.cell (p := ⟨bd, 2, none⟩) l3).trans c3_2, (hb.cell (p := ⟨bd, 3, none⟩) l3).trans c3_3, (hb.cell (p := ⟨bd, 4, none⟩) l3).trans c3_4, Nat.lt_of_lt_of_le l0 hb.size, Nat.lt_of_lt_of_le l1 hb.size, Nat.lt_of_lt_of_le l2 hb.size, Nat.lt_of_lt_of_le l3 hb.size, hB.trans (hb.mono hB_le)⟩
theorem tail_bn {p q r : Pk} {d : Dp} {bp bq bx bd : Nat} {w W : World} (h : W.cell? ⟨bp, 0, none⟩ = some (.string p.name) ∧ W.cell? ⟨bp, 1, none⟩ = some (.int .i64 p.epoch) ∧ W.cell? ⟨bp, 2, none⟩ = some (.string p.ver) ∧ W.cell? ⟨bp, 3, none⟩ = some (.string p.rel) ∧ W.cell? ⟨bp, 4, none⟩ = some (.int .u8 p.arch) ∧ W.cell? ⟨bp, 5, none⟩ = some (.string p.vendor) ∧ W.cell? ⟨bp, 6, none⟩ = some (.slice p.provA p.prov.length p.provC) ∧ W.cell? ⟨bp, 7, none⟩ = some (.slice p.reqA p.req.length p.reqC) ∧ W.cell? ⟨bp, 8, none⟩ = some (.slice p.conA p.con.length p.conC) ∧ W.cell? ⟨bp, 9, none⟩ = some (.slice p.obsA p.obs.length p.obsC) ∧ W.cell? ⟨bp, 10, none⟩ = some (.slice p.rcmA p.rcm.length p.rcmC) ∧ W.cell? ⟨bp, 11, none⟩ = some (.slice p.supA p.sup.length p.supC) ∧ W.cell? ⟨bp, 12, none⟩ = some (.slice p.sugA p.sug.length p.sugC) ∧ W.cell? ⟨bp, 13, none⟩ = some (.slice p.enhA p.enh.length p.enhC) ∧ W.cell? ⟨bp, 14, none⟩ = some (.slice p.filesA p.files.length p.filesC) ∧ W.cell? ⟨bq, 0, none⟩ = some (.string q.name) ∧ W.cell? ⟨bq, 1, none⟩ = some (.int .i64 q.epoch) ∧ W.cell? ⟨bq, 2, none⟩ = some (.string q.ver) ∧ W.cell? ⟨bq, 3, none⟩ = some (.string q.rel) ∧ W.cell? ⟨bq, 4, none⟩ = some (.int .u8 q.arch) ∧ W.cell? ⟨bq, 5, none⟩ = some (.string q.vendor) ∧ W.cell? ⟨bq, 6, none⟩ = some (.slice q.provA q.prov.length q.provC) ∧ W.cell? ⟨bq, 7, none⟩ = some (.slice q.reqA q.req.length q.reqC) ∧ W.cell? ⟨bq, 8, none⟩ = some (.slice q.conA q.con.length q.conC) ∧ W.cell? ⟨bq, 9, none⟩ = some (.slice q.obsA q.obs.length q.obsC) ∧ W.cell? ⟨bq, 10, none⟩ = some (.slice q.rcmA q.rcm.length q.rcmC) ∧ W.cell? ⟨bq, 11, none⟩ = some (.slice q.supA q.sup.length q.supC) ∧ W.cell? ⟨bq, 12, none⟩ = some (.slice q.sugA q.sug.length q.sugC) ∧ W.cell? ⟨bq, 13, none⟩ = some (.slice q.enhA q.enh.length q.enhC) ∧ W.cell? ⟨bq, 14, none⟩ = some (.slice q.filesA q.files.length q.filesC) ∧ W.cell? ⟨bx, 0, none⟩ = some (.string q.name) ∧ W.cell? ⟨bx, 1, none⟩ = some (.int .i64 q.epoch) ∧ W.cell? ⟨bx, 2, none⟩ = some (.string q.ver) ∧ W.cell? ⟨bx, 3, none⟩ = some (.string q.rel) ∧ W.cell? ⟨bx, 4, none⟩ = some (.int .u8 r.arch) ∧ W.cell? ⟨bx, 5, none⟩ = some (.string r.vendor) ∧ W.cell? ⟨bx, 6, none⟩ = some (.slice r.provA r.prov.length r.provC) ∧ W.cell? ⟨bx, 7, none⟩ = some (.slice r.reqA r.req.length r.reqC) ∧ W.cell? ⟨bx, 8, none⟩ = some (.slice r.conA r.con.length r.conC) ∧ W.cell? ⟨bx, 9, none⟩ = some (.slice r.obsA r.obs.length r.obsC) ∧ W.cell? ⟨bx, 10, none⟩ = some (.slice r.rcmA r.rcm.length r.rcmC) ∧ W.cell? ⟨bx, 11, none⟩ = some (.slice r.supA r.sup.length r.supC) ∧ W.cell? ⟨bx, 12, none⟩ = some (.slice r.sugA r.sug.length r.sugC) ∧ W.cell? ⟨bx, 13, none⟩ = some (.slice r.enhA r.enh.length r.enhC) ∧ W.cell? ⟨bx, 14, none⟩ = some (.slice r.filesA r.files.length r.filesC) ∧ W.cell? ⟨bd, 0, none⟩ = some (.string (bs d.name)) ∧ W.cell? ⟨bd, 1, none⟩ = some (.int .u8 d.op) ∧ W.cell? ⟨bd, 2, none⟩ = some (.int .i64 d.evr.epoch) ∧ W.cell? ⟨bd, 3, none⟩ = some (.string (bs d.evr.ver)) ∧ W.cell? ⟨bd, 4, none⟩ = some (.string (bs d.evr.rel)) ∧ bp < W.heap.size ∧ bq < W.heap.size ∧ bx < W.heap.size ∧ bd < W.heap.size ∧ Below w.heap.size w W) : Below w.heap.size w W := h.2.2.2.2.2.2.2.2.2.2.2.2.2.2.2.2.2.2.2.2.2.2.2.2.2.2.2.2.2.2.2.2.2.2.2.2.2.2.2.2.2.2.2.2.2.2.2.2.2.2.2.2.2.2
def setx (U : World) (bx : Nat) (a b c d : Value) : World := ((((U.setCell ⟨bx, 0, none⟩ a).setCell ⟨bx, 1, none⟩ b).setCell ⟨bx, 2, none⟩ c).setCell ⟨bx, 3, none⟩ d).drew
set_option maxHeartbeats 2000000 in
theorem x_world (U X : World) (bx : Nat) (r : Pk) (h : PkAt U bx r) (a b c d : Value) (hX : X = setx U bx a b c d) : (∀ (k i : Nat), k ≠ bx → X.cell? ⟨k, i, none⟩ = U.cell? ⟨k, i, none⟩) ∧ X.cell? ⟨bx, 0, none⟩ = some a ∧ X.cell? ⟨bx, 1, none⟩ = some b ∧ X.cell? ⟨bx, 2, none⟩ = some c ∧ X.cell? ⟨bx, 3, none⟩ = some d ∧ (∀ (i : Nat), 3 < i → X.cell? ⟨bx, i, none⟩ = U.cell? ⟨bx, i, none⟩) ∧ X.heap.size = U.heap.size := by
  subst hX
  unfold setx
  obtain ⟨hl, h0, h1, h2, h3, _⟩ := h
  have o : ∀ (Z : World) (i j : Nat) (v : Value), i ≠ j → (Z.setCell ⟨bx, i, none⟩ v).cell? ⟨bx, j, none⟩ = Z.cell? ⟨bx, j, none⟩ := fun Z i j v hij => World.cell?_setCell_other _ _ _ _ (fun e => hij (by injection e))
  have f : ∀ (Z : World) (k i j : Nat) (v : Value), k ≠ bx → (Z.setCell ⟨bx, i, none⟩ v).cell? ⟨k, j, none⟩ = Z.cell? ⟨k, j, none⟩ := fun Z k i j v hk => World.cell?_setCell_other _ _ _ _ (fun e => hk (by injection e with e1; exact e1.symm))
  refine ⟨fun k i hk => (f _ k 3 i d hk).trans ((f _ k 2 i c hk).trans ((f _ k 1 i b hk).trans (f _ k 0 i a hk))), ?_, ?_, ?_, ?_, fun i hi => (o _ 3 i _ (by omega)).trans ((o _ 2 i _ (by omega)).trans ((o _ 1 i _ (by omega)).trans (o _ 0 i _ (by omega)))), by simp [World.setCell, World.drew]⟩
  · exact (o _ 3 0 _ (by decide)).trans ((o _ 2 0 _ (by decide)).trans ((o _ 1 0 _ (by decide)).trans (World.cell?_setCell_same _ _ _ h0)))
  · exact (o _ 3 1 _ (by decide)).trans ((o _ 2 1 _ (by decide)).trans (World.cell?_setCell_same _ _ _ ((o _ 0 1 _ (by decide)).trans h1)))
  · exact (o _ 3 2 _ (by decide)).trans (World.cell?_setCell_same _ _ _ ((o _ 1 2 _ (by decide)).trans ((o _ 0 2 _ (by decide)).trans h2)))
  · exact World.cell?_setCell_same _ _ _ ((o _ 2 3 _ (by decide)).trans ((o _ 1 3 _ (by decide)).trans ((o _ 0 3 _ (by decide)).trans h3)))
set_option maxRecDepth 100000 in
set_option maxHeartbeats 16000000 in
theorem pkgByName_row (w0 : World) (hI : PkIn w0) (p : Pk) (hp : p.Laid w0.heap.size w0) (q : Pk) (hq : q.Laid w0.heap.size w0) (r : Pk) (hr : r.Laid w0.heap.size w0) (d : Dp) (hdw : d.wf) (z0 : d.name.length ≤ reachBytes) (z1 : d.evr.ver.length ≤ reachBytes) : Calls Tryd.prog 9 #[p.val, q.val, r.val, d.val] w0 fun e w' => e = .returned (.bool true) ∧ Below w0.heap.size w0 w' := by
  have LP := Lib.hid (fun W (h : Below w0.heap.size w0 W) => pklarge_any p W ((hp.below h).more h.size))
  have LQ := Lib.hid (fun W (h : Below w0.heap.size w0 W) => pklarge_any q W ((hq.below h).more h.size))
  have LR := Lib.hid (fun W (h : Below w0.heap.size w0 W) => pklarge_any r W ((hr.below h).more h.size))
  have AW := Lib.hid (fun W (h : Below w0.heap.size w0 W) => awake10 W (hI.below h))
  have OX := Lib.hid (fun (sp : p.small) (sq : q.small) W (h : Below w0.heap.size w0 W) => pkobs_any p (r.as q) W ((hp.below h).more h.size) sp (show (r.as q).evr.ok from small_evok (p := q) sq))
  have OQ := Lib.hid (fun (sp : p.small) (sq : q.small) W (h : Below w0.heap.size w0 W) => pkobs_any p q W ((hp.below h).more h.size) sp (small_evok sq))
  have NX := Lib.hid (fun (sq : q.small) (hd : d.evr.ok) W => pknamed_any (r.as q) d W (show (r.as q).evr.ok from small_evok (p := q) sq) hd (u8_wf hdw.2.1))
  have NQ := Lib.hid (fun (sq : q.small) (hd : d.evr.ok) W => pknamed_any q d W (small_evok sq) hd (u8_wf hdw.2.1))
  rw [as_own] at OX NX
  generalize (p.obs.any fun d => meetsN q.ownD d) = b1 at *
  generalize meetsN q.ownD d = b2 at *
  have s1 := bs_size d.evr.ver
  have s2 := bs_size d.evr.rel
  have DOK := Lib.hid (fun (h1 : (bs d.evr.ver).size ≤ 1000) (h2 : (bs d.evr.rel).size ≤ 1000) => show d.evr.ok from ⟨by omega, by omega⟩)
  have B0 := (((Below.refl w0.heap.size w0).alloc (Nat.le_refl _) (.cells #[.string p.name, .int .i64 p.epoch, .string p.ver, .string p.rel, .int .u8 p.arch, .string p.vendor, .slice p.provA p.prov.length p.provC, .slice p.reqA p.req.length p.reqC, .slice p.conA p.con.length p.conC, .slice p.obsA p.obs.length p.obsC, .slice p.rcmA p.rcm.length p.rcmC, .slice p.supA p.sup.length p.supC, .slice p.sugA p.sug.length p.sugC, .slice p.enhA p.enh.length p.enhC, .slice p.filesA p.files.length p.filesC] 51)).alloc (by simp) (.cells #[.string q.name, .int .i64 q.epoch, .string q.ver, .string q.rel, .int .u8 q.arch, .string q.vendor, .slice q.provA q.prov.length q.provC, .slice q.reqA q.req.length q.reqC, .slice q.conA q.con.length q.conC, .slice q.obsA q.obs.length q.obsC, .slice q.rcmA q.rcm.length q.rcmC, .slice q.supA q.sup.length q.supC, .slice q.sugA q.sug.length q.sugC, .slice q.enhA q.enh.length q.enhC, .slice q.filesA q.files.length q.filesC] 51)).alloc (by simp; omega) (.cells #[.string r.name, .int .i64 r.epoch, .string r.ver, .string r.rel, .int .u8 r.arch, .string r.vendor, .slice r.provA r.prov.length r.provC, .slice r.reqA r.req.length r.reqC, .slice r.conA r.con.length r.conC, .slice r.obsA r.obs.length r.obsC, .slice r.rcmA r.rcm.length r.rcmC, .slice r.supA r.sup.length r.supC, .slice r.sugA r.sug.length r.sugC, .slice r.enhA r.enh.length r.enhC, .slice r.filesA r.files.length r.filesC] 51) |>.alloc (by simp; omega) (.cells #[.string (bs d.name), .int .u8 d.op, .int .i64 d.evr.epoch, .string (bs d.evr.ver), .string (bs d.evr.rel)] 37)
  have hP : PkAt ((((w0.alloc (.cells #[.string p.name, .int .i64 p.epoch, .string p.ver, .string p.rel, .int .u8 p.arch, .string p.vendor, .slice p.provA p.prov.length p.provC, .slice p.reqA p.req.length p.reqC, .slice p.conA p.con.length p.conC, .slice p.obsA p.obs.length p.obsC, .slice p.rcmA p.rcm.length p.rcmC, .slice p.supA p.sup.length p.supC, .slice p.sugA p.sug.length p.sugC, .slice p.enhA p.enh.length p.enhC, .slice p.filesA p.files.length p.filesC] 51)).alloc (.cells #[.string q.name, .int .i64 q.epoch, .string q.ver, .string q.rel, .int .u8 q.arch, .string q.vendor, .slice q.provA q.prov.length q.provC, .slice q.reqA q.req.length q.reqC, .slice q.conA q.con.length q.conC, .slice q.obsA q.obs.length q.obsC, .slice q.rcmA q.rcm.length q.rcmC, .slice q.supA q.sup.length q.supC, .slice q.sugA q.sug.length q.sugC, .slice q.enhA q.enh.length q.enhC, .slice q.filesA q.files.length q.filesC] 51)).alloc (.cells #[.string r.name, .int .i64 r.epoch, .string r.ver, .string r.rel, .int .u8 r.arch, .string r.vendor, .slice r.provA r.prov.length r.provC, .slice r.reqA r.req.length r.reqC, .slice r.conA r.con.length r.conC, .slice r.obsA r.obs.length r.obsC, .slice r.rcmA r.rcm.length r.rcmC, .slice r.supA r.sup.length r.supC, .slice r.sugA r.sug.length r.sugC, .slice r.enhA r.enh.length r.enhC, .slice r.filesA r.files.length r.filesC] 51)).alloc (.cells #[.string (bs d.name), .int .u8 d.op, .int .i64 d.evr.epoch, .string (bs d.evr.ver), .string (bs d.evr.rel)] 37)) w0.heap.size p := (((PkAt.new w0 p).calls ((Below.refl _ _).alloc (Nat.le_refl _) _)).calls ((Below.refl _ _).alloc (Nat.le_refl _) _)).calls ((Below.refl _ _).alloc (Nat.le_refl _) _)
  have hQ : PkAt ((((w0.alloc (.cells #[.string p.name, .int .i64 p.epoch, .string p.ver, .string p.rel, .int .u8 p.arch, .string p.vendor, .slice p.provA p.prov.length p.provC, .slice p.reqA p.req.length p.reqC, .slice p.conA p.con.length p.conC, .slice p.obsA p.obs.length p.obsC, .slice p.rcmA p.rcm.length p.rcmC, .slice p.supA p.sup.length p.supC, .slice p.sugA p.sug.length p.sugC, .slice p.enhA p.enh.length p.enhC, .slice p.filesA p.files.length p.filesC] 51)).alloc (.cells #[.string q.name, .int .i64 q.epoch, .string q.ver, .string q.rel, .int .u8 q.arch, .string q.vendor, .slice q.provA q.prov.length q.provC, .slice q.reqA q.req.length q.reqC, .slice q.conA q.con.length q.conC, .slice q.obsA q.obs.length q.obsC, .slice q.rcmA q.rcm.length q.rcmC, .slice q.supA q.sup.length q.supC, .slice q.sugA q.sug.length q.sugC, .slice q.enhA q.enh.length q.enhC, .slice q.filesA q.files.length q.filesC] 51)).alloc (.cells #[.string r.name, .int .i64 r.epoch, .string r.ver, .string r.rel, .int .u8 r.arch, .string r.vendor, .slice r.provA r.prov.length r.provC, .slice r.reqA r.req.length r.reqC, .slice r.conA r.con.length r.conC, .slice r.obsA r.obs.length r.obsC, .slice r.rcmA r.rcm.length r.rcmC, .slice r.supA r.sup.length r.supC, .slice r.sugA r.sug.length r.sugC, .slice r.enhA r.enh.length r.enhC, .slice r.filesA r.files.length r.filesC] 51)).alloc (.cells #[.string (bs d.name), .int .u8 d.op, .int .i64 d.evr.epoch, .string (bs d.evr.ver), .string (bs d.evr.rel)] 37)) (w0.heap.size + 1) q := by have h := ((PkAt.new (w0.alloc (.cells #[.string p.name, .int .i64 p.epoch, .string p.ver, .string p.rel, .int .u8 p.arch, .string p.vendor, .slice p.provA p.prov.length p.provC, .slice p.reqA p.req.length p.reqC, .slice p.conA p.con.length p.conC, .slice p.obsA p.obs.length p.obsC, .slice p.rcmA p.rcm.length p.rcmC, .slice p.supA p.sup.length p.supC, .slice p.sugA p.sug.length p.sugC, .slice p.enhA p.enh.length p.enhC, .slice p.filesA p.files.length p.filesC] 51)) q).calls ((Below.refl _ _).alloc (Nat.le_refl _) (.cells #[.string r.name, .int .i64 r.epoch, .string r.ver, .string r.rel, .int .u8 r.arch, .string r.vendor, .slice r.provA r.prov.length r.provC, .slice r.reqA r.req.length r.reqC, .slice r.conA r.con.length r.conC, .slice r.obsA r.obs.length r.obsC, .slice r.rcmA r.rcm.length r.rcmC, .slice r.supA r.sup.length r.supC, .slice r.sugA r.sug.length r.sugC, .slice r.enhA r.enh.length r.enhC, .slice r.filesA r.files.length r.filesC] 51))).calls ((Below.refl _ _).alloc (Nat.le_refl _) (.cells #[.string (bs d.name), .int .u8 d.op, .int .i64 d.evr.epoch, .string (bs d.evr.ver), .string (bs d.evr.rel)] 37)); rw [show (w0.alloc (.cells #[.string p.name, .int .i64 p.epoch, .string p.ver, .string p.rel, .int .u8 p.arch, .string p.vendor, .slice p.provA p.prov.length p.provC, .slice p.reqA p.req.length p.reqC, .slice p.conA p.con.length p.conC, .slice p.obsA p.obs.length p.obsC, .slice p.rcmA p.rcm.length p.rcmC, .slice p.supA p.sup.length p.supC, .slice p.sugA p.sug.length p.sugC, .slice p.enhA p.enh.length p.enhC, .slice p.filesA p.files.length p.filesC] 51)).heap.size = w0.heap.size + 1 from by simp] at h; exact h
  have hR : PkAt ((((w0.alloc (.cells #[.string p.name, .int .i64 p.epoch, .string p.ver, .string p.rel, .int .u8 p.arch, .string p.vendor, .slice p.provA p.prov.length p.provC, .slice p.reqA p.req.length p.reqC, .slice p.conA p.con.length p.conC, .slice p.obsA p.obs.length p.obsC, .slice p.rcmA p.rcm.length p.rcmC, .slice p.supA p.sup.length p.supC, .slice p.sugA p.sug.length p.sugC, .slice p.enhA p.enh.length p.enhC, .slice p.filesA p.files.length p.filesC] 51)).alloc (.cells #[.string q.name, .int .i64 q.epoch, .string q.ver, .string q.rel, .int .u8 q.arch, .string q.vendor, .slice q.provA q.prov.length q.provC, .slice q.reqA q.req.length q.reqC, .slice q.conA q.con.length q.conC, .slice q.obsA q.obs.length q.obsC, .slice q.rcmA q.rcm.length q.rcmC, .slice q.supA q.sup.length q.supC, .slice q.sugA q.sug.length q.sugC, .slice q.enhA q.enh.length q.enhC, .slice q.filesA q.files.length q.filesC] 51)).alloc (.cells #[.string r.name, .int .i64 r.epoch, .string r.ver, .string r.rel, .int .u8 r.arch, .string r.vendor, .slice r.provA r.prov.length r.provC, .slice r.reqA r.req.length r.reqC, .slice r.conA r.con.length r.conC, .slice r.obsA r.obs.length r.obsC, .slice r.rcmA r.rcm.length r.rcmC, .slice r.supA r.sup.length r.supC, .slice r.sugA r.sug.length r.sugC, .slice r.enhA r.enh.length r.enhC, .slice r.filesA r.files.length r.filesC] 51)).alloc (.cells #[.string (bs d.name), .int .u8 d.op, .int .i64 d.evr.epoch, .string (bs d.evr.ver), .string (bs d.evr.rel)] 37)) (w0.heap.size + 2) r := by have h := (PkAt.new ((w0.alloc (.cells #[.string p.name, .int .i64 p.epoch, .string p.ver, .string p.rel, .int .u8 p.arch, .string p.vendor, .slice p.provA p.prov.length p.provC, .slice p.reqA p.req.length p.reqC, .slice p.conA p.con.length p.conC, .slice p.obsA p.obs.length p.obsC, .slice p.rcmA p.rcm.length p.rcmC, .slice p.supA p.sup.length p.supC, .slice p.sugA p.sug.length p.sugC, .slice p.enhA p.enh.length p.enhC, .slice p.filesA p.files.length p.filesC] 51)).alloc (.cells #[.string q.name, .int .i64 q.epoch, .string q.ver, .string q.rel, .int .u8 q.arch, .string q.vendor, .slice q.provA q.prov.length q.provC, .slice q.reqA q.req.length q.reqC, .slice q.conA q.con.length q.conC, .slice q.obsA q.obs.length q.obsC, .slice q.rcmA q.rcm.length q.rcmC, .slice q.supA q.sup.length q.supC, .slice q.sugA q.sug.length q.sugC, .slice q.enhA q.enh.length q.enhC, .slice q.filesA q.files.length q.filesC] 51)) r).calls ((Below.refl _ _).alloc (Nat.le_refl _) (.cells #[.string (bs d.name), .int .u8 d.op, .int .i64 d.evr.epoch, .string (bs d.evr.ver), .string (bs d.evr.rel)] 37)); rw [show ((w0.alloc (.cells #[.string p.name, .int .i64 p.epoch, .string p.ver, .string p.rel, .int .u8 p.arch, .string p.vendor, .slice p.provA p.prov.length p.provC, .slice p.reqA p.req.length p.reqC, .slice p.conA p.con.length p.conC, .slice p.obsA p.obs.length p.obsC, .slice p.rcmA p.rcm.length p.rcmC, .slice p.supA p.sup.length p.supC, .slice p.sugA p.sug.length p.sugC, .slice p.enhA p.enh.length p.enhC, .slice p.filesA p.files.length p.filesC] 51)).alloc (.cells #[.string q.name, .int .i64 q.epoch, .string q.ver, .string q.rel, .int .u8 q.arch, .string q.vendor, .slice q.provA q.prov.length q.provC, .slice q.reqA q.req.length q.reqC, .slice q.conA q.con.length q.conC, .slice q.obsA q.obs.length q.obsC, .slice q.rcmA q.rcm.length q.rcmC, .slice q.supA q.sup.length q.supC, .slice q.sugA q.sug.length q.sugC, .slice q.enhA q.enh.length q.enhC, .slice q.filesA q.files.length q.filesC] 51)).heap.size = w0.heap.size + 2 from by simp] at h; exact h
  have hD : DpAt ((((w0.alloc (.cells #[.string p.name, .int .i64 p.epoch, .string p.ver, .string p.rel, .int .u8 p.arch, .string p.vendor, .slice p.provA p.prov.length p.provC, .slice p.reqA p.req.length p.reqC, .slice p.conA p.con.length p.conC, .slice p.obsA p.obs.length p.obsC, .slice p.rcmA p.rcm.length p.rcmC, .slice p.supA p.sup.length p.supC, .slice p.sugA p.sug.length p.sugC, .slice p.enhA p.enh.length p.enhC, .slice p.filesA p.files.length p.filesC] 51)).alloc (.cells #[.string q.name, .int .i64 q.epoch, .string q.ver, .string q.rel, .int .u8 q.arch, .string q.vendor, .slice q.provA q.prov.length q.provC, .slice q.reqA q.req.length q.reqC, .slice q.conA q.con.length q.conC, .slice q.obsA q.obs.length q.obsC, .slice q.rcmA q.rcm.length q.rcmC, .slice q.supA q.sup.length q.supC, .slice q.sugA q.sug.length q.sugC, .slice q.enhA q.enh.length q.enhC, .slice q.filesA q.files.length q.filesC] 51)).alloc (.cells #[.string r.name, .int .i64 r.epoch, .string r.ver, .string r.rel, .int .u8 r.arch, .string r.vendor, .slice r.provA r.prov.length r.provC, .slice r.reqA r.req.length r.reqC, .slice r.conA r.con.length r.conC, .slice r.obsA r.obs.length r.obsC, .slice r.rcmA r.rcm.length r.rcmC, .slice r.supA r.sup.length r.supC, .slice r.sugA r.sug.length r.sugC, .slice r.enhA r.enh.length r.enhC, .slice r.filesA r.files.length r.filesC] 51)).alloc (.cells #[.string (bs d.name), .int .u8 d.op, .int .i64 d.evr.epoch, .string (bs d.evr.ver), .string (bs d.evr.rel)] 37)) (w0.heap.size + 3) d := by have h := DpAt.new (((w0.alloc (.cells #[.string p.name, .int .i64 p.epoch, .string p.ver, .string p.rel, .int .u8 p.arch, .string p.vendor, .slice p.provA p.prov.length p.provC, .slice p.reqA p.req.length p.reqC, .slice p.conA p.con.length p.conC, .slice p.obsA p.obs.length p.obsC, .slice p.rcmA p.rcm.length p.rcmC, .slice p.supA p.sup.length p.supC, .slice p.sugA p.sug.length p.sugC, .slice p.enhA p.enh.length p.enhC, .slice p.filesA p.files.length p.filesC] 51)).alloc (.cells #[.string q.name, .int .i64 q.epoch, .string q.ver, .string q.rel, .int .u8 q.arch, .string q.vendor, .slice q.provA q.prov.length q.provC, .slice q.reqA q.req.length q.reqC, .slice q.conA q.con.length q.conC, .slice q.obsA q.obs.length q.obsC, .slice q.rcmA q.rcm.length q.rcmC, .slice q.supA q.sup.length q.supC, .slice q.sugA q.sug.length q.sugC, .slice q.enhA q.enh.length q.enhC, .slice q.filesA q.files.length q.filesC] 51)).alloc (.cells #[.string r.name, .int .i64 r.epoch, .string r.ver, .string r.rel, .int .u8 r.arch, .string r.vendor, .slice r.provA r.prov.length r.provC, .slice r.reqA r.req.length r.reqC, .slice r.conA r.con.length r.conC, .slice r.obsA r.obs.length r.obsC, .slice r.rcmA r.rcm.length r.rcmC, .slice r.supA r.sup.length r.supC, .slice r.sugA r.sug.length r.sugC, .slice r.enhA r.enh.length r.enhC, .slice r.filesA r.files.length r.filesC] 51)) d; rw [show (((w0.alloc (.cells #[.string p.name, .int .i64 p.epoch, .string p.ver, .string p.rel, .int .u8 p.arch, .string p.vendor, .slice p.provA p.prov.length p.provC, .slice p.reqA p.req.length p.reqC, .slice p.conA p.con.length p.conC, .slice p.obsA p.obs.length p.obsC, .slice p.rcmA p.rcm.length p.rcmC, .slice p.supA p.sup.length p.supC, .slice p.sugA p.sug.length p.sugC, .slice p.enhA p.enh.length p.enhC, .slice p.filesA p.files.length p.filesC] 51)).alloc (.cells #[.string q.name, .int .i64 q.epoch, .string q.ver, .string q.rel, .int .u8 q.arch, .string q.vendor, .slice q.provA q.prov.length q.provC, .slice q.reqA q.req.length q.reqC, .slice q.conA q.con.length q.conC, .slice q.obsA q.obs.length q.obsC, .slice q.rcmA q.rcm.length q.rcmC, .slice q.supA q.sup.length q.supC, .slice q.sugA q.sug.length q.sugC, .slice q.enhA q.enh.length q.enhC, .slice q.filesA q.files.length q.filesC] 51)).alloc (.cells #[.string r.name, .int .i64 r.epoch, .string r.ver, .string r.rel, .int .u8 r.arch, .string r.vendor, .slice r.provA r.prov.length r.provC, .slice r.reqA r.req.length r.reqC, .slice r.conA r.con.length r.conC, .slice r.obsA r.obs.length r.obsC, .slice r.rcmA r.rcm.length r.rcmC, .slice r.supA r.sup.length r.supC, .slice r.sugA r.sug.length r.sugC, .slice r.enhA r.enh.length r.enhC, .slice r.filesA r.files.length r.filesC] 51)).heap.size = w0.heap.size + 3 from by simp] at h; exact h
  clear hI hp hq hr hdw s1 s2
  unfold LargePost at LP LQ LR
  unfold Pk.val Dp.val Pk.as at *
  dsimp only at OX NX
  go_enter Tryd.func9, Tryd.ntmps9
  go_wp2_with fail
  go_at_call 27
  generalize ((((w0.alloc (.cells #[.string p.name, .int .i64 p.epoch, .string p.ver, .string p.rel, .int .u8 p.arch, .string p.vendor, .slice p.provA p.prov.length p.provC, .slice p.reqA p.req.length p.reqC, .slice p.conA p.con.length p.conC, .slice p.obsA p.obs.length p.obsC, .slice p.rcmA p.rcm.length p.rcmC, .slice p.supA p.sup.length p.supC, .slice p.sugA p.sug.length p.sugC, .slice p.enhA p.enh.length p.enhC, .slice p.filesA p.files.length p.filesC] 51)).alloc (.cells #[.string q.name, .int .i64 q.epoch, .string q.ver, .string q.rel, .int .u8 q.arch, .string q.vendor, .slice q.provA q.prov.length q.provC, .slice q.reqA q.req.length q.reqC, .slice q.conA q.con.length q.conC, .slice q.obsA q.obs.length q.obsC, .slice q.rcmA q.rcm.length q.rcmC, .slice q.supA q.sup.length q.supC, .slice q.sugA q.sug.length q.sugC, .slice q.enhA q.enh.length q.enhC, .slice q.filesA q.files.length q.filesC] 51)).alloc (.cells #[.string r.name, .int .i64 r.epoch, .string r.ver, .string r.rel, .int .u8 r.arch, .string r.vendor, .slice r.provA r.prov.length r.provC, .slice r.reqA r.req.length r.reqC, .slice r.conA r.con.length r.conC, .slice r.obsA r.obs.length r.obsC, .slice r.rcmA r.rcm.length r.rcmC, .slice r.supA r.sup.length r.supC, .slice r.sugA r.sug.length r.sugC, .slice r.enhA r.enh.length r.enhC, .slice r.filesA r.files.length r.filesC] 51)).alloc (.cells #[.string (bs d.name), .int .u8 d.op, .int .i64 d.evr.epoch, .string (bs d.evr.ver), .string (bs d.evr.rel)] 37)) = V at *
  skip
  refine (LP.out _ B0).mono ?_
  rintro e w1 ⟨r1, rfl, SP, h⟩
  have B0 := B0.trans (h.mono B0.size)
  have hP := hP.calls h
  have hQ := hQ.calls h
  have hR := hR.calls h
  have hD := hD.calls h
  clear h
  have SP := Lib.hid SP
  cases r1
  rotate_left
  · clear SP LP LQ LR OX OQ NX NQ hP hQ hR hD
    as_aux_lemma =>
      go_wp2_with fail
      go_at_call 28
      refine (AW.out _ B0).mono ?_
      rintro e w9 ⟨rfl, h⟩
      have B0 := B0.trans (h.mono B0.size)
      go_wp2
      go_ret
      exact ⟨rfl, B0⟩
  as_aux_lemma =>
    obtain ⟨_, c0, c1, c2, c3, c4, c5, c6, c7, c8, c9, c10, c11, c12, c13, c14⟩ := id hQ
    go_wp2_with fail
    go_at_call 27
    refine (LQ.out _ B0).mono ?_
    rintro e w1 ⟨r1, rfl, SQ, h⟩
    have B0 := B0.trans (h.mono B0.size)
    have hP := hP.calls h
    have hQ := hQ.calls h
    have hR := hR.calls h
    have hD := hD.calls h
    clear h
    clear c0 c1 c2 c3 c4 c5 c6 c7 c8 c9 c10 c11 c12 c13 c14
    have SQ := Lib.hid SQ
    cases r1
    rotate_left
    · clear LP LQ LR OX OQ NX NQ hP hQ hR hD
      as_aux_lemma =>
        go_wp2_with fail
        go_at_call 28
        refine (AW.out _ B0).mono ?_
        rintro e w9 ⟨rfl, h⟩
        have B0 := B0.trans (h.mono B0.size)
        go_wp2
        go_ret
        exact ⟨rfl, B0⟩
    as_aux_lemma =>
      as_aux_lemma =>
        obtain ⟨_, c0, c1, c2, c3, c4, c5, c6, c7, c8, c9, c10, c11, c12, c13, c14⟩ := id hR
        go_wp2_with fail
        go_at_call 27
        refine (LR.out _ B0).mono ?_
        rintro e w1 ⟨r1, rfl, SR, h⟩
        have B0 := B0.trans (h.mono B0.size)
        have hP := hP.calls h
        have hQ := hQ.calls h
        have hR := hR.calls h
        have hD := hD.calls h
        clear h
        clear c0 c1 c2 c3 c4 c5 c6 c7 c8 c9 c10 c11 c12 c13 c14
        have SR := Lib.hid SR
        cases r1
        rotate_left
        · clear LP LQ LR OX OQ NX NQ hP hQ hR hD
          as_aux_lemma =>
            go_wp2_with fail
            go_at_call 28
            refine (AW.out _ B0).mono ?_
            rintro e w9 ⟨rfl, h⟩
            have B0 := B0.trans (h.mono B0.size)
            go_wp2
            go_ret
            exact ⟨rfl, B0⟩
        as_aux_lemma =>
          as_aux_lemma =>
            have SP := Lib.hid (SP.out (by trivial))
            have SQ := Lib.hid (SQ.out (by trivial))
            clear LP LQ LR SR
            obtain ⟨_, d0, d1, d2, d3, d4⟩ := id hD
            have z2 := bs_size d.name
            have z3 := bs_size d.evr.ver
            have zr : reachBytes = 140737488351232 := rfl
            have hz : IntKind.i64.wrap (((bs d.name).size : Int) + ((bs d.evr.ver).size : Int)) = ((bs d.name).size : Int) + ((bs d.evr.ver).size : Int) := IntWalk.i64_in _ (by omega)
            by_cases k0 : (1000 : Int) < ((bs d.name).size : Int) + ((bs d.evr.ver).size : Int)
            · clear OX OQ NX NQ hP hQ hR hD SP SQ DOK z0 z1 z2 z3 zr
              as_aux_lemma =>
                go_wp2_with fail
                go_at_call 28
                refine (AW.out _ B0).mono ?_
                rintro e w9 ⟨rfl, h⟩
                have B0 := B0.trans (h.mono B0.size)
                go_wp2
                go_ret
                exact ⟨rfl, B0⟩
            by_cases k1 : (1000 : Int) < ((bs d.evr.rel).size : Int)
            · clear OX OQ NX NQ hP hQ hR hD SP SQ DOK z0 z1 z2 z3 zr
              as_aux_lemma =>
                go_wp2_with fail
                go_at_call 28
                refine (AW.out _ B0).mono ?_
                rintro e w9 ⟨rfl, h⟩
                have B0 := B0.trans (h.mono B0.size)
                go_wp2
                go_ret
                exact ⟨rfl, B0⟩
            skip
            as_aux_lemma =>
              have dok := Lib.hid (DOK.out (by omega) (by omega))
              clear DOK z0 z1 z2 z3 zr
              have OX := Lib.hid (OX.out SP.out SQ.out)
              have OQ := Lib.hid (OQ.out SP.out SQ.out)
              have NX := Lib.hid (NX.out SQ.out dok.out)
              have NQ := Lib.hid (NQ.out SQ.out dok.out)
              clear SP SQ dok
              go_wp2_with fail
              go_at_call 28
              refine (AW.out _ B0).mono ?_
              rintro e w1 ⟨rfl, h⟩
              have B0 := B0.trans (h.mono B0.size)
              have hP := hP.calls h
              have hQ := hQ.calls h
              have hR := hR.calls h
              have hD := hD.calls h
              clear h
              clear d0 d1 d2 d3 d4
              obtain ⟨_, c0, c1, c2, c3, c4, c5, c6, c7, c8, c9, c10, c11, c12, c13, c14⟩ := id hR
              go_wp2_with fail
              clear c0 c1 c2 c3 c4 c5 c6 c7 c8 c9 c10 c11 c12 c13 c14
              have hX := PkAt.new w1 r
              have hP4 := hP.calls ((Below.refl _ w1).alloc (Nat.le_refl _) (.cells #[.string r.name, .int .i64 r.epoch, .string r.ver, .string r.rel, .int .u8 r.arch, .string r.vendor, .slice r.provA r.prov.length r.provC, .slice r.reqA r.req.length r.reqC, .slice r.conA r.con.length r.conC, .slice r.obsA r.obs.length r.obsC, .slice r.rcmA r.rcm.length r.rcmC, .slice r.supA r.sup.length r.supC, .slice r.sugA r.sug.length r.sugC, .slice r.enhA r.enh.length r.enhC, .slice r.filesA r.files.length r.filesC] 51))
              have hQ4 := hQ.calls ((Below.refl _ w1).alloc (Nat.le_refl _) (.cells #[.string r.name, .int .i64 r.epoch, .string r.ver, .string r.rel, .int .u8 r.arch, .string r.vendor, .slice r.provA r.prov.length r.provC, .slice r.reqA r.req.length r.reqC, .slice r.conA r.con.length r.conC, .slice r.obsA r.obs.length r.obsC, .slice r.rcmA r.rcm.length r.rcmC, .slice r.supA r.sup.length r.supC, .slice r.sugA r.sug.length r.sugC, .slice r.enhA r.enh.length r.enhC, .slice r.filesA r.files.length r.filesC] 51))
              have hD4 := hD.calls ((Below.refl _ w1).alloc (Nat.le_refl _) (.cells #[.string r.name, .int .i64 r.epoch, .string r.ver, .string r.rel, .int .u8 r.arch, .string r.vendor, .slice r.provA r.prov.length r.provC, .slice r.reqA r.req.length r.reqC, .slice r.conA r.con.length r.conC, .slice r.obsA r.obs.length r.obsC, .slice r.rcmA r.rcm.length r.rcmC, .slice r.supA r.sup.length r.supC, .slice r.sugA r.sug.length r.sugC, .slice r.enhA r.enh.length r.enhC, .slice r.filesA r.files.length r.filesC] 51))
              have B4 := B0.alloc B0.size (.cells #[.string r.name, .int .i64 r.epoch, .string r.ver, .string r.rel, .int .u8 r.arch, .string r.vendor, .slice r.provA r.prov.length r.provC, .slice r.reqA r.req.length r.reqC, .slice r.conA r.con.length r.conC, .slice r.obsA r.obs.length r.obsC, .slice r.rcmA r.rcm.length r.rcmC, .slice r.supA r.sup.length r.supC, .slice r.sugA r.sug.length r.sugC, .slice r.enhA r.enh.length r.enhC, .slice r.filesA r.files.length r.filesC] 51)
              have f0 : (w1.alloc (.cells #[.string r.name, .int .i64 r.epoch, .string r.ver, .string r.rel, .int .u8 r.arch, .string r.vendor, .slice r.provA r.prov.length r.provC, .slice r.reqA r.req.length r.reqC, .slice r.conA r.con.length r.conC, .slice r.obsA r.obs.length r.obsC, .slice r.rcmA r.rcm.length r.rcmC, .slice r.supA r.sup.length r.supC, .slice r.sugA r.sug.length r.sugC, .slice r.enhA r.enh.length r.enhC, .slice r.filesA r.files.length r.filesC] 51)).frozen? ⟨w1.heap.size, 0, none⟩ = false := World.frozen?_alloc_at _ _ _ _ rfl
              have f1 : (w1.alloc (.cells #[.string r.name, .int .i64 r.epoch, .string r.ver, .string r.rel, .int .u8 r.arch, .string r.vendor, .slice r.provA r.prov.length r.provC, .slice r.reqA r.req.length r.reqC, .slice r.conA r.con.length r.conC, .slice r.obsA r.obs.length r.obsC, .slice r.rcmA r.rcm.length r.rcmC, .slice r.supA r.sup.length r.supC, .slice r.sugA r.sug.length r.sugC, .slice r.enhA r.enh.length r.enhC, .slice r.filesA r.files.length r.filesC] 51)).frozen? ⟨w1.heap.size, 1, none⟩ = false := World.frozen?_alloc_at _ _ _ _ rfl
              have f2 : (w1.alloc (.cells #[.string r.name, .int .i64 r.epoch, .string r.ver, .string r.rel, .int .u8 r.arch, .string r.vendor, .slice r.provA r.prov.length r.provC, .slice r.reqA r.req.length r.reqC, .slice r.conA r.con.length r.conC, .slice r.obsA r.obs.length r.obsC, .slice r.rcmA r.rcm.length r.rcmC, .slice r.supA r.sup.length r.supC, .slice r.sugA r.sug.length r.sugC, .slice r.enhA r.enh.length r.enhC, .slice r.filesA r.files.length r.filesC] 51)).frozen? ⟨w1.heap.size, 2, none⟩ = false := World.frozen?_alloc_at _ _ _ _ rfl
              have f3 : (w1.alloc (.cells #[.string r.name, .int .i64 r.epoch, .string r.ver, .string r.rel, .int .u8 r.arch, .string r.vendor, .slice r.provA r.prov.length r.provC, .slice r.reqA r.req.length r.reqC, .slice r.conA r.con.length r.conC, .slice r.obsA r.obs.length r.obsC, .slice r.rcmA r.rcm.length r.rcmC, .slice r.supA r.sup.length r.supC, .slice r.sugA r.sug.length r.sugC, .slice r.enhA r.enh.length r.enhC, .slice r.filesA r.files.length r.filesC] 51)).frozen? ⟨w1.heap.size, 3, none⟩ = false := World.frozen?_alloc_at _ _ _ _ rfl
              have np := hP.1
              have nq := hQ.1
              have nd := hD.1
              have nw := B0.size
              clear hP hQ hR hD B0
              generalize w1.alloc (.cells #[.string r.name, .int .i64 r.epoch, .string r.ver, .string r.rel, .int .u8 r.arch, .string r.vendor, .slice r.provA r.prov.length r.provC, .slice r.reqA r.req.length r.reqC, .slice r.conA r.con.length r.conC, .slice r.obsA r.obs.length r.obsC, .slice r.rcmA r.rcm.length r.rcmC, .slice r.supA r.sup.length r.supC, .slice r.sugA r.sug.length r.sugC, .slice r.enhA r.enh.length r.enhC, .slice r.filesA r.files.length r.filesC] 51) = U at *
              generalize w1.heap.size = bx at *
              obtain ⟨_, x0, x1, x2, x3, _⟩ := id hX
              obtain ⟨_, c0, c1, c2, c3, _⟩ := id hQ4
              as_aux_lemma =>
                go_region
                clear x0 x1 x2 x3 c0 c1 c2 c3 f0 f1 f2 f3
                obtain ⟨xo, y0, y1, y2, y3, xr, xs⟩ := x_world U ((((U.setCell ⟨bx, 0, none⟩ (.string q.name)).setCell ⟨bx, 1, none⟩ (.int .i64 q.epoch)).setCell ⟨bx, 2, none⟩ (.string q.ver)).setCell ⟨bx, 3, none⟩ (.string q.rel)).drew bx r hX (.string q.name) (.int .i64 q.epoch) (.string q.ver) (.string q.rel) rfl
                have B5 : Below w0.heap.size w0 ((((U.setCell ⟨bx, 0, none⟩ (.string q.name)).setCell ⟨bx, 1, none⟩ (.int .i64 q.epoch)).setCell ⟨bx, 2, none⟩ (.string q.ver)).setCell ⟨bx, 3, none⟩ (.string q.rel)).drew := ((((B4.setCell (p := ⟨bx, 0, none⟩) (by omega) _).setCell (p := ⟨bx, 1, none⟩) (by omega) _).setCell (p := ⟨bx, 2, none⟩) (by omega) _).setCell (p := ⟨bx, 3, none⟩) (by omega) _).drew
                generalize ((((U.setCell ⟨bx, 0, none⟩ (.string q.name)).setCell ⟨bx, 1, none⟩ (.int .i64 q.epoch)).setCell ⟨bx, 2, none⟩ (.string q.ver)).setCell ⟨bx, 3, none⟩ (.string q.rel)).drew = w at *
                obtain ⟨hlx, _, _, _, _, y4, y5, y6, y7, y8, y9, y10, y11, y12, y13, y14⟩ := hX
                obtain ⟨hlp, p0, p1, p2, p3, p4, p5, p6, p7, p8, p9, p10, p11, p12, p13, p14⟩ := hP4
                obtain ⟨hlq, q0, q1, q2, q3, q4, q5, q6, q7, q8, q9, q10, q11, q12, q13, q14⟩ := hQ4
                obtain ⟨hld, d0, d1, d2, d3, d4⟩ := hD4
                have p0 := (xo w0.heap.size 0 (by omega)).trans p0
                have p1 := (xo w0.heap.size 1 (by omega)).trans p1
                have p2 := (xo w0.heap.size 2 (by omega)).trans p2
                have p3 := (xo w0.heap.size 3 (by omega)).trans p3
                have p4 := (xo w0.heap.size 4 (by omega)).trans p4
                have p5 := (xo w0.heap.size 5 (by omega)).trans p5
                have p6 := (xo w0.heap.size 6 (by omega)).trans p6
                have p7 := (xo w0.heap.size 7 (by omega)).trans p7
                have p8 := (xo w0.heap.size 8 (by omega)).trans p8
                have p9 := (xo w0.heap.size 9 (by omega)).trans p9
                have p10 := (xo w0.heap.size 10 (by omega)).trans p10
                have p11 := (xo w0.heap.size 11 (by omega)).trans p11
                have p12 := (xo w0.heap.size 12 (by omega)).trans p12
                have p13 := (xo w0.heap.size 13 (by omega)).trans p13
                have p14 := (xo w0.heap.size 14 (by omega)).trans p14
                have q0 := (xo (w0.heap.size + 1) 0 (by omega)).trans q0
                have q1 := (xo (w0.heap.size + 1) 1 (by omega)).trans q1
                have q2 := (xo (w0.heap.size + 1) 2 (by omega)).trans q2
                have q3 := (xo (w0.heap.size + 1) 3 (by omega)).trans q3
                have q4 := (xo (w0.heap.size + 1) 4 (by omega)).trans q4
                have q5 := (xo (w0.heap.size + 1) 5 (by omega)).trans q5
                have q6 := (xo (w0.heap.size + 1) 6 (by omega)).trans q6
                have q7 := (xo (w0.heap.size + 1) 7 (by omega)).trans q7
                have q8 := (xo (w0.heap.size + 1) 8 (by omega)).trans q8
                have q9 := (xo (w0.heap.size + 1) 9 (by omega)).trans q9
                have q10 := (xo (w0.heap.size + 1) 10 (by omega)).trans q10
                have q11 := (xo (w0.heap.size + 1) 11 (by omega)).trans q11
                have q12 := (xo (w0.heap.size + 1) 12 (by omega)).trans q12
                have q13 := (xo (w0.heap.size + 1) 13 (by omega)).trans q13
                have q14 := (xo (w0.heap.size + 1) 14 (by omega)).trans q14
                have y4 := (xr 4 (by decide)).trans y4
                have y5 := (xr 5 (by decide)).trans y5
                have y6 := (xr 6 (by decide)).trans y6
                have y7 := (xr 7 (by decide)).trans y7
                have y8 := (xr 8 (by decide)).trans y8
                have y9 := (xr 9 (by decide)).trans y9
                have y10 := (xr 10 (by decide)).trans y10
                have y11 := (xr 11 (by decide)).trans y11
                have y12 := (xr 12 (by decide)).trans y12
                have y13 := (xr 13 (by decide)).trans y13
                have y14 := (xr 14 (by decide)).trans y14
                have d0 := (xo (w0.heap.size + 3) 0 (by omega)).trans d0
                have d1 := (xo (w0.heap.size + 3) 1 (by omega)).trans d1
                have d2 := (xo (w0.heap.size + 3) 2 (by omega)).trans d2
                have d3 := (xo (w0.heap.size + 3) 3 (by omega)).trans d3
                have d4 := (xo (w0.heap.size + 3) 4 (by omega)).trans d4
                rw [← xs] at hlx hlp hlq hld
                clear xo xr xs B4 np nq nd nw
                go_wp2_with fail
                as_aux_lemma =>
                  go_region_held3 (fun W => W.cell? ⟨w0.heap.size, 0, none⟩ = some (.string p.name) ∧ W.cell? ⟨w0.heap.size, 1, none⟩ = some (.int .i64 p.epoch) ∧ W.cell? ⟨w0.heap.size, 2, none⟩ = some (.string p.ver) ∧ W.cell? ⟨w0.heap.size, 3, none⟩ = some (.string p.rel) ∧ W.cell? ⟨w0.heap.size, 4, none⟩ = some (.int .u8 p.arch) ∧ W.cell? ⟨w0.heap.size, 5, none⟩ = some (.string p.vendor) ∧ W.cell? ⟨w0.heap.size, 6, none⟩ = some (.slice p.provA p.prov.length p.provC) ∧ W.cell? ⟨w0.heap.size, 7, none⟩ = some (.slice p.reqA p.req.length p.reqC) ∧ W.cell? ⟨w0.heap.size, 8, none⟩ = some (.slice p.conA p.con.length p.conC) ∧ W.cell? ⟨w0.heap.size, 9, none⟩ = some (.slice p.obsA p.obs.length p.obsC) ∧ W.cell? ⟨w0.heap.size, 10, none⟩ = some (.slice p.rcmA p.rcm.length p.rcmC) ∧ W.cell? ⟨w0.heap.size, 11, none⟩ = some (.slice p.supA p.sup.length p.supC) ∧ W.cell? ⟨w0.heap.size, 12, none⟩ = some (.slice p.sugA p.sug.length p.sugC) ∧ W.cell? ⟨w0.heap.size, 13, none⟩ = some (.slice p.enhA p.enh.length p.enhC) ∧ W.cell? ⟨w0.heap.size, 14, none⟩ = some (.slice p.filesA p.files.length p.filesC) ∧ W.cell? ⟨w0.heap.size + 1, 0, none⟩ = some (.string q.name) ∧ W.cell? ⟨w0.heap.size + 1, 1, none⟩ = some (.int .i64 q.epoch) ∧ W.cell? ⟨w0.heap.size + 1, 2, none⟩ = some (.string q.ver) ∧ W.cell? ⟨w0.heap.size + 1, 3, none⟩ = some (.string q.rel) ∧ W.cell? ⟨w0.heap.size + 1, 4, none⟩ = some (.int .u8 q.arch) ∧ W.cell? ⟨w0.heap.size + 1, 5, none⟩ = some (.string q.vendor) ∧ W.cell? ⟨w0.heap.size + 1, 6, none⟩ = some (.slice q.provA q.prov.length q.provC) ∧ W.cell? ⟨w0.heap.size + 1, 7, none⟩ = some (.slice q.reqA q.req.length q.reqC) ∧ W.cell? ⟨w0.heap.size + 1, 8, none⟩ = some (.slice q.conA q.con.length q.conC) ∧ W.cell? ⟨w0.heap.size + 1, 9, none⟩ = some (.slice q.obsA q.obs.length q.obsC) ∧ W.cell? ⟨w0.heap.size + 1, 10, none⟩ = some (.slice q.rcmA q.rcm.length q.rcmC) ∧ W.cell? ⟨w0.heap.size + 1, 11, none⟩ = some (.slice q.supA q.sup.length q.supC) ∧ W.cell? ⟨w0.heap.size + 1, 12, none⟩ = some (.slice q.sugA q.sug.length q.sugC) ∧ W.cell? ⟨w0.heap.size + 1, 13, none⟩ = some (.slice q.enhA q.enh.length q.enhC) ∧ W.cell? ⟨w0.heap.size + 1, 14, none⟩ = some (.slice q.filesA q.files.length q.filesC) ∧ W.cell? ⟨bx, 0, none⟩ = some (.string q.name) ∧ W.cell? ⟨bx, 1, none⟩ = some (.int .i64 q.epoch) ∧ W.cell? ⟨bx, 2, none⟩ = some (.string q.ver) ∧ W.cell? ⟨bx, 3, none⟩ = some (.string q.rel) ∧ W.cell? ⟨bx, 4, none⟩ = some (.int .u8 r.arch) ∧ W.cell? ⟨bx, 5, none⟩ = some (.string r.vendor) ∧ W.cell? ⟨bx, 6, none⟩ = some (.slice r.provA r.prov.length r.provC) ∧ W.cell? ⟨bx, 7, none⟩ = some (.slice r.reqA r.req.length r.reqC) ∧ W.cell? ⟨bx, 8, none⟩ = some (.slice r.conA r.con.length r.conC) ∧ W.cell? ⟨bx, 9, none⟩ = some (.slice r.obsA r.obs.length r.obsC) ∧ W.cell? ⟨bx, 10, none⟩ = some (.slice r.rcmA r.rcm.length r.rcmC) ∧ W.cell? ⟨bx, 11, none⟩ = some (.slice r.supA r.sup.length r.supC) ∧ W.cell? ⟨bx, 12, none⟩ = some (.slice r.sugA r.sug.length r.sugC) ∧ W.cell? ⟨bx, 13, none⟩ = some (.slice r.enhA r.enh.length r.enhC) ∧ W.cell? ⟨bx, 14, none⟩ = some (.slice r.filesA r.files.length r.filesC) ∧ W.cell? ⟨w0.heap.size + 3, 0, none⟩ = some (.string (bs d.name)) ∧ W.cell? ⟨w0.heap.size + 3, 1, none⟩ = some (.int .u8 d.op) ∧ W.cell? ⟨w0.heap.size + 3, 2, none⟩ = some (.int .i64 d.evr.epoch) ∧ W.cell? ⟨w0.heap.size + 3, 3, none⟩ = some (.string (bs d.evr.ver)) ∧ W.cell? ⟨w0.heap.size + 3, 4, none⟩ = some (.string (bs d.evr.rel)) ∧ w0.heap.size < W.heap.size ∧ w0.heap.size + 1 < W.heap.size ∧ bx < W.heap.size ∧ w0.heap.size + 3 < W.heap.size ∧ Below w.heap.size w W) (first | exact keep_bn (by assumption) hbb | exact ⟨p0, p1, p2, p3, p4, p5, p6, p7, p8, p9, p10, p11, p12, p13, p14, q0, q1, q2, q3, q4, q5, q6, q7, q8, q9, q10, q11, q12, q13, q14, y0, y1, y2, y3, y4, y5, y6, y7, y8, y9, y10, y11, y12, y13, y14, d0, d1, d2, d3, d4, hlp, hlq, hlx, hld, (Below.refl _ _).drew⟩ | go_keep) (first | (go_at_call 33; ((with_reducible refine (OX.out _ (B5.trans (Below.mono (tail_bn (by assumption)) B5.size))).mono ?_); rintro e w' ⟨rfl, hbb⟩)) | (go_at_call 33; ((with_reducible refine (OQ.out _ (B5.trans (Below.mono (tail_bn (by assumption)) B5.size))).mono ?_); rintro e w' ⟨rfl, hbb⟩)) | (go_at_call 34; ((with_reducible refine (NX.out _).mono ?_); rintro e w' ⟨rfl, hbb⟩)) | (go_at_call 34; ((with_reducible refine (NQ.out _).mono ?_); rintro e w' ⟨rfl, hbb⟩)))
                  rename_i hh
                  have hB := B5.trans ((tail_bn hh).mono B5.size)
                  go_wp2
                  go_ret
                  exact ⟨by simp, hB⟩
end Go.Proofs.YtinidiiachedbaaDoor
