/- PkB -/
import Derived.Test.YteobmfpbgnmffaaGreatDoorT10
set_option linter.unusedVariables false
set_option maxHeartbeats 16000000
set_option maxRecDepth 100000
open Go.Lib (hid)
set_option linter.unusedSimpArgs false
namespace Go.Proofs.YteobmfpbgnmffaaGreatDoor
open Go.RowKit Go.Shelf
def Pk.ownD (p : Pk) : Dp := ⟨p.name.toList, 2, p.evr⟩
theorem qUU (p : Pk) (w : World) : Calls Tryz.prog 167 #[.string p.name, .agg #[.int .i64 p.epoch, .string p.ver, .string p.rel]] w fun r w' => r = .returned p.ownD.val /\ Below w.heap.size w w' := by
 have h := qSI p.name p.evr w;unfold Evr.val Pk.evr at h;dsimp only at h;rw [qBX, qBX] at h;unfold Pk.ownD Dp.val Pk.evr;dsimp only;rw [qBX, qBX, qBX];exact h
theorem qLX {W : World} {r : Nat} (h : ∀ i, i < 5 -> ∃ v, W.cell? ⟨r, i, none⟩ = some v) (a b c d e : Value) : let U := ((((W.setCell ⟨r, 0, none⟩ a).setCell ⟨r, 1, none⟩ b).setCell ⟨r, 2, none⟩ c).setCell ⟨r, 3, none⟩ d).setCell ⟨r, 4, none⟩ e; U.cell? ⟨r, 0, none⟩ = some a /\ U.cell? ⟨r, 1, none⟩ = some b /\ U.cell? ⟨r, 2, none⟩ = some c /\ U.cell? ⟨r, 3, none⟩ = some d /\ U.cell? ⟨r, 4, none⟩ = some e /\ ∀ {n : Nat} {w : World}, n <= r -> Below n w W -> Below n w U := by
 obtain ⟨v0, h0⟩ := h 0 (by decide);obtain ⟨v1, h1⟩ := h 1 (by decide);obtain ⟨v2, h2⟩ := h 2 (by decide);obtain ⟨v3, h3⟩ := h 3 (by decide);obtain ⟨v4, h4⟩ := h 4 (by decide);have o : ∀ (X : World) (i j : Nat) (v : Value), i ≠ j -> (X.setCell ⟨r, i, none⟩ v).cell? ⟨r, j, none⟩ = X.cell? ⟨r, j, none⟩ := fun X i j v hij => World.cell?_setCell_other _ _ _ _ (fun e => hij (by injection e));refine ⟨?_, ?_, ?_, ?_, ?_, ?_⟩
 ·rw [o _ 4 0 _ (by decide), o _ 3 0 _ (by decide), o _ 2 0 _ (by decide), o _ 1 0 _ (by decide)]; exact World.cell?_setCell_same _ _ _ h0
 ·rw [o _ 4 1 _ (by decide), o _ 3 1 _ (by decide), o _ 2 1 _ (by decide)]; exact World.cell?_setCell_same _ _ _ ((o _ 0 1 _ (by decide)).trans h1)
 ·rw [o _ 4 2 _ (by decide), o _ 3 2 _ (by decide)]; exact World.cell?_setCell_same _ _ _ (((o _ 1 2 _ (by decide)).trans (o _ 0 2 _ (by decide))).trans h2)
 ·rw [o _ 4 3 _ (by decide)]; exact World.cell?_setCell_same _ _ _ ((((o _ 2 3 _ (by decide)).trans (o _ 1 3 _ (by decide))).trans (o _ 0 3 _ (by decide))).trans h3)
 ·exact World.cell?_setCell_same _ _ _ (((((o _ 3 4 _ (by decide)).trans (o _ 2 4 _ (by decide))).trans (o _ 1 4 _ (by decide))).trans (o _ 0 4 _ (by decide))).trans h4)
 ·intro n w hn hB;exact ((((hB.setCell hn _).setCell hn _).setCell hn _).setCell hn _).setCell hn _
theorem qQ0 (p : Pk) (w : World) : Calls Tryz.prog 121 #[p.val] w fun r w' => r = .returned p.ownD.val /\ Below w.heap.size w w' := by
 have D := hid (fun W => qUU p W);unfold Pk.val
 go_enter Tryz.func121, Tryz.ntmps121
 go_wp2_with fail
 go_at_call 167
 refine (D.out _).mono ?_;rintro e w2 ⟨rfl, h⟩;have hb := ((Below.refl w.heap.size w).alloc lR (.cells #[.string p.name, .int .i64 p.epoch, .string p.ver, .string p.rel, .int .u8 p.arch, .string p.vendor, .slice p.provA p.prov.length p.provC, .slice p.reqA p.req.length p.reqC, .slice p.conA p.con.length p.conC, .slice p.obsA p.obs.length p.obsC, .slice p.rcmA p.rcm.length p.rcmC, .slice p.supA p.sup.length p.supC, .slice p.sugA p.sug.length p.sugC, .slice p.enhA p.enh.length p.enhC, .slice p.filesA p.files.length p.filesC] 28)).alloc (by simp) (.cells #[.string ⟨#[]⟩, .int .u8 0, .int .i64 0, .string ⟨#[]⟩, .string ⟨#[]⟩] 37);have hB := hb.trans (h.mono hb.size);have z0 : w2.cell? ⟨w.heap.size + 1, 0, none⟩ = some (.string ⟨#[]⟩) := (h.cell (p := ⟨w.heap.size + 1, 0, none⟩) (by simp)).trans ((World.cell?_alloc_at _ _ _ _ (by simp)).trans rfl);have f0 : w2.frozen? ⟨w.heap.size + 1, 0, none⟩ = false := (h.frozen (p := ⟨w.heap.size + 1, 0, none⟩) (by simp)).trans (World.frozen?_alloc_at _ _ _ _ (by simp));have z1 : w2.cell? ⟨w.heap.size + 1, 1, none⟩ = some (.int .u8 0) := (h.cell (p := ⟨w.heap.size + 1, 1, none⟩) (by simp)).trans ((World.cell?_alloc_at _ _ _ _ (by simp)).trans rfl);have f1 : w2.frozen? ⟨w.heap.size + 1, 1, none⟩ = false := (h.frozen (p := ⟨w.heap.size + 1, 1, none⟩) (by simp)).trans (World.frozen?_alloc_at _ _ _ _ (by simp));have z2 : w2.cell? ⟨w.heap.size + 1, 2, none⟩ = some (.int .i64 0) := (h.cell (p := ⟨w.heap.size + 1, 2, none⟩) (by simp)).trans ((World.cell?_alloc_at _ _ _ _ (by simp)).trans rfl);have f2 : w2.frozen? ⟨w.heap.size + 1, 2, none⟩ = false := (h.frozen (p := ⟨w.heap.size + 1, 2, none⟩) (by simp)).trans (World.frozen?_alloc_at _ _ _ _ (by simp));have z3 : w2.cell? ⟨w.heap.size + 1, 3, none⟩ = some (.string ⟨#[]⟩) := (h.cell (p := ⟨w.heap.size + 1, 3, none⟩) (by simp)).trans ((World.cell?_alloc_at _ _ _ _ (by simp)).trans rfl);have f3 : w2.frozen? ⟨w.heap.size + 1, 3, none⟩ = false := (h.frozen (p := ⟨w.heap.size + 1, 3, none⟩) (by simp)).trans (World.frozen?_alloc_at _ _ _ _ (by simp));have z4 : w2.cell? ⟨w.heap.size + 1, 4, none⟩ = some (.string ⟨#[]⟩) := (h.cell (p := ⟨w.heap.size + 1, 4, none⟩) (by simp)).trans ((World.cell?_alloc_at _ _ _ _ (by simp)).trans rfl);have f4 : w2.frozen? ⟨w.heap.size + 1, 4, none⟩ = false := (h.frozen (p := ⟨w.heap.size + 1, 4, none⟩) (by simp)).trans (World.frozen?_alloc_at _ _ _ _ (by simp));have S := qLX (W := w2) (r := w.heap.size + 1) (fun i hi => match i, hi with | 0, _ => ⟨_, z0⟩ | 1, _ => ⟨_, z1⟩ | 2, _ => ⟨_, z2⟩ | 3, _ => ⟨_, z3⟩ | 4, _ => ⟨_, z4⟩) (.string (bs p.name.toList)) (.int .u8 2) (.int .i64 p.epoch) (.string (bs p.ver.toList)) (.string (bs p.rel.toList));dsimp only at S;clear h hb D;unfold Pk.ownD Dp.val Pk.evr;dsimp only;obtain ⟨s0, s1, s2, s3, s4, hS⟩ := S;go_wp2_with fail
 exact bodyPost_ret (v := .agg #[.string (bs p.name.toList), .int .u8 2, .int .i64 p.epoch, .string (bs p.ver.toList), .string (bs p.rel.toList)]) (by simp [results, Tryz.results121, go_sem, s0, s1, s2, s3, s4]) rfl ⟨rfl, hS (by simp) hB⟩
def qAP (a d : Dp) : Bool := (a.name == d.name) && qFB a d
theorem qO9 (a d : Dp) (w : World) (ha : a.evr.ok) (hd : d.evr.ok) (h0 : 0 <= a.op /\ a.op <= 255) (h1 : 0 <= d.op /\ d.op <= 255) : Calls Tryz.prog 105 #[a.val, d.val] w fun r w' => r = .returned (.bool (qAP a d)) /\ Below w.heap.size w w' := by
 have M := hid (fun W => qSB a d W ha hd h0.1 h0.2 h1.1 h1.2);have sa := qA4 a.name;have sd := qA4 d.name;by_cases hn : a.name = d.name
 ·have e : qAP a d = qFB a d := by unfold qAP; rw [hn]; simp
  rw [e];have q1 : ((bs a.name).toList == (bs d.name).toList) = true := by rw [sa, sd, hn]; simp
  have q2 : (bs a.name).toList = (bs d.name).toList := by rw [sa, sd, hn]
  generalize qFB a d = r at *;clear e hn sa sd;unfold Dp.val at M |-;have hb := ((Below.refl w.heap.size w).alloc lR (.cells #[.string (bs a.name), .int .u8 a.op, .int .i64 a.evr.epoch, .string (bs a.evr.ver), .string (bs a.evr.rel)] 37)).alloc (by simp) (.cells #[.string (bs d.name), .int .u8 d.op, .int .i64 d.evr.epoch, .string (bs d.evr.ver), .string (bs d.evr.rel)] 37)
  go_enter Tryz.func105, Tryz.ntmps105
  go_wp2_with fail
  go_at_call 147
  refine (M.out _).mono ?_;rintro e w2 ⟨rfl, h⟩;have hB := hb.trans (h.mono hb.size);go_wp2
  go_ret;exact ⟨rfl, hB⟩
 ·have e : qAP a d = false := by unfold qAP; rw [beq_eq_false_iff_ne.2 hn]; rfl
  rw [e];have q1 : ((bs a.name).toList == (bs d.name).toList) = false := by rw [sa, sd]; exact beq_eq_false_iff_ne.2 hn
  have q2 : ¬ (bs a.name).toList = (bs d.name).toList := by rw [sa, sd]; exact hn
  clear e hn sa sd M;unfold Dp.val
  go_enter Tryz.func105, Tryz.ntmps105
  go_wp2_with fail
  go_ret;exact ⟨rfl, ((Below.refl w.heap.size w).alloc lR _).alloc (by simp) _⟩
theorem qR7 {p : Pk} {d : Dp} {n : Nat} {w W W' : World} (h : W.cell? ⟨n, 0, none⟩ = some (.string p.name) /\ W.cell? ⟨n, 1, none⟩ = some (.int .i64 p.epoch) /\ W.cell? ⟨n, 2, none⟩ = some (.string p.ver) /\ W.cell? ⟨n, 3, none⟩ = some (.string p.rel) /\ W.cell? ⟨n, 4, none⟩ = some (.int .u8 p.arch) /\ W.cell? ⟨n, 5, none⟩ = some (.string p.vendor) /\ W.cell? ⟨n, 6, none⟩ = some (.slice p.provA p.prov.length p.provC) /\ W.cell? ⟨n, 7, none⟩ = some (.slice p.reqA p.req.length p.reqC) /\ W.cell? ⟨n, 8, none⟩ = some (.slice p.conA p.con.length p.conC) /\ W.cell? ⟨n, 9, none⟩ = some (.slice p.obsA p.obs.length p.obsC) /\ W.cell? ⟨n, 10, none⟩ = some (.slice p.rcmA p.rcm.length p.rcmC) /\ W.cell? ⟨n, 11, none⟩ = some (.slice p.supA p.sup.length p.supC) /\ W.cell? ⟨n, 12, none⟩ = some (.slice p.sugA p.sug.length p.sugC) /\ W.cell? ⟨n, 13, none⟩ = some (.slice p.enhA p.enh.length p.enhC) /\ W.cell? ⟨n, 14, none⟩ = some (.slice p.filesA p.files.length p.filesC) /\ W.cell? ⟨(n + 1), 0, none⟩ = some (.string (bs d.name)) /\ W.cell? ⟨(n + 1), 1, none⟩ = some (.int .u8 d.op) /\ W.cell? ⟨(n + 1), 2, none⟩ = some (.int .i64 d.evr.epoch) /\ W.cell? ⟨(n + 1), 3, none⟩ = some (.string (bs d.evr.ver)) /\ W.cell? ⟨(n + 1), 4, none⟩ = some (.string (bs d.evr.rel)) /\ n < W.heap.size /\ (n + 1) < W.heap.size /\ Below n w W) (hb : Below W.heap.size W W') :
  W'.cell? ⟨n, 0, none⟩ = some (.string p.name) /\ W'.cell? ⟨n, 1, none⟩ = some (.int .i64 p.epoch) /\ W'.cell? ⟨n, 2, none⟩ = some (.string p.ver) /\ W'.cell? ⟨n, 3, none⟩ = some (.string p.rel) /\ W'.cell? ⟨n, 4, none⟩ = some (.int .u8 p.arch) /\ W'.cell? ⟨n, 5, none⟩ = some (.string p.vendor) /\ W'.cell? ⟨n, 6, none⟩ = some (.slice p.provA p.prov.length p.provC) /\ W'.cell? ⟨n, 7, none⟩ = some (.slice p.reqA p.req.length p.reqC) /\ W'.cell? ⟨n, 8, none⟩ = some (.slice p.conA p.con.length p.conC) /\ W'.cell? ⟨n, 9, none⟩ = some (.slice p.obsA p.obs.length p.obsC) /\ W'.cell? ⟨n, 10, none⟩ = some (.slice p.rcmA p.rcm.length p.rcmC) /\ W'.cell? ⟨n, 11, none⟩ = some (.slice p.supA p.sup.length p.supC) /\ W'.cell? ⟨n, 12, none⟩ = some (.slice p.sugA p.sug.length p.sugC) /\ W'.cell? ⟨n, 13, none⟩ = some (.slice p.enhA p.enh.length p.enhC) /\ W'.cell? ⟨n, 14, none⟩ = some (.slice p.filesA p.files.length p.filesC) /\ W'.cell? ⟨(n + 1), 0, none⟩ = some (.string (bs d.name)) /\ W'.cell? ⟨(n + 1), 1, none⟩ = some (.int .u8 d.op) /\ W'.cell? ⟨(n + 1), 2, none⟩ = some (.int .i64 d.evr.epoch) /\ W'.cell? ⟨(n + 1), 3, none⟩ = some (.string (bs d.evr.ver)) /\ W'.cell? ⟨(n + 1), 4, none⟩ = some (.string (bs d.evr.rel)) /\ n < W'.heap.size /\ (n + 1) < W'.heap.size /\ Below n w W' := by
 obtain ⟨c0_0, c0_1, c0_2, c0_3, c0_4, c0_5, c0_6, c0_7, c0_8, c0_9, c0_10, c0_11, c0_12, c0_13, c0_14, c1_0, c1_1, c1_2, c1_3, c1_4, l0, l1, hB⟩ := h;have hB_le : n <= W.heap.size := by omega
 exact ⟨(hb.cell (p := ⟨n, 0, none⟩) l0).trans c0_0, (hb.cell (p := ⟨n, 1, none⟩) l0).trans c0_1, (hb.cell (p := ⟨n, 2, none⟩) l0).trans c0_2, (hb.cell (p := ⟨n, 3, none⟩) l0).trans c0_3, (hb.cell (p := ⟨n, 4, none⟩) l0).trans c0_4, (hb.cell (p := ⟨n, 5, none⟩) l0).trans c0_5, (hb.cell (p := ⟨n, 6, none⟩) l0).trans c0_6, (hb.cell (p := ⟨n, 7, none⟩) l0).trans c0_7, (hb.cell (p := ⟨n, 8, none⟩) l0).trans c0_8, (hb.cell (p := ⟨n, 9, none⟩) l0).trans c0_9, (hb.cell (p := ⟨n, 10, none⟩) l0).trans c0_10, (hb.cell (p := ⟨n, 11, none⟩) l0).trans c0_11, (hb.cell (p := ⟨n, 12, none⟩) l0).trans c0_12, (hb.cell (p := ⟨n, 13, none⟩) l0).trans c0_13, (hb.cell (p := ⟨n, 14, none⟩) l0).trans c0_14, (hb.cell (p := ⟨(n + 1), 0, none⟩) l1).trans c1_0, (hb.cell (p := ⟨(n + 1), 1, none⟩) l1).trans c1_1, (hb.cell (p := ⟨(n + 1), 2, none⟩) l1).trans c1_2, (hb.cell (p := ⟨(n + 1), 3, none⟩) l1).trans c1_3, (hb.cell (p := ⟨(n + 1), 4, none⟩) l1).trans c1_4, Nat.lt_of_lt_of_le l0 hb.size, Nat.lt_of_lt_of_le l1 hb.size, hB.trans (hb.mono hB_le)⟩
theorem qOP {p : Pk} {d : Dp} {n : Nat} {w W : World} (h : W.cell? ⟨n, 0, none⟩ = some (.string p.name) /\ W.cell? ⟨n, 1, none⟩ = some (.int .i64 p.epoch) /\ W.cell? ⟨n, 2, none⟩ = some (.string p.ver) /\ W.cell? ⟨n, 3, none⟩ = some (.string p.rel) /\ W.cell? ⟨n, 4, none⟩ = some (.int .u8 p.arch) /\ W.cell? ⟨n, 5, none⟩ = some (.string p.vendor) /\ W.cell? ⟨n, 6, none⟩ = some (.slice p.provA p.prov.length p.provC) /\ W.cell? ⟨n, 7, none⟩ = some (.slice p.reqA p.req.length p.reqC) /\ W.cell? ⟨n, 8, none⟩ = some (.slice p.conA p.con.length p.conC) /\ W.cell? ⟨n, 9, none⟩ = some (.slice p.obsA p.obs.length p.obsC) /\ W.cell? ⟨n, 10, none⟩ = some (.slice p.rcmA p.rcm.length p.rcmC) /\ W.cell? ⟨n, 11, none⟩ = some (.slice p.supA p.sup.length p.supC) /\ W.cell? ⟨n, 12, none⟩ = some (.slice p.sugA p.sug.length p.sugC) /\ W.cell? ⟨n, 13, none⟩ = some (.slice p.enhA p.enh.length p.enhC) /\ W.cell? ⟨n, 14, none⟩ = some (.slice p.filesA p.files.length p.filesC) /\ W.cell? ⟨(n + 1), 0, none⟩ = some (.string (bs d.name)) /\ W.cell? ⟨(n + 1), 1, none⟩ = some (.int .u8 d.op) /\ W.cell? ⟨(n + 1), 2, none⟩ = some (.int .i64 d.evr.epoch) /\ W.cell? ⟨(n + 1), 3, none⟩ = some (.string (bs d.evr.ver)) /\ W.cell? ⟨(n + 1), 4, none⟩ = some (.string (bs d.evr.rel)) /\ n < W.heap.size /\ (n + 1) < W.heap.size /\ Below n w W) : Below n w W := h.2.2.2.2.2.2.2.2.2.2.2.2.2.2.2.2.2.2.2.2.2.2
theorem qQS (p : Pk) (d : Dp) (w : World) : let W := ((w.alloc (.cells #[.string p.name, .int .i64 p.epoch, .string p.ver, .string p.rel, .int .u8 p.arch, .string p.vendor, .slice p.provA p.prov.length p.provC, .slice p.reqA p.req.length p.reqC, .slice p.conA p.con.length p.conC, .slice p.obsA p.obs.length p.obsC, .slice p.rcmA p.rcm.length p.rcmC, .slice p.supA p.sup.length p.supC, .slice p.sugA p.sug.length p.sugC, .slice p.enhA p.enh.length p.enhC, .slice p.filesA p.files.length p.filesC] 28)).alloc (.cells #[.string (bs d.name), .int .u8 d.op, .int .i64 d.evr.epoch, .string (bs d.evr.ver), .string (bs d.evr.rel)] 37)); let n := w.heap.size; W.cell? ⟨n, 0, none⟩ = some (.string p.name) /\ W.cell? ⟨n, 1, none⟩ = some (.int .i64 p.epoch) /\ W.cell? ⟨n, 2, none⟩ = some (.string p.ver) /\ W.cell? ⟨n, 3, none⟩ = some (.string p.rel) /\ W.cell? ⟨n, 4, none⟩ = some (.int .u8 p.arch) /\ W.cell? ⟨n, 5, none⟩ = some (.string p.vendor) /\ W.cell? ⟨n, 6, none⟩ = some (.slice p.provA p.prov.length p.provC) /\ W.cell? ⟨n, 7, none⟩ = some (.slice p.reqA p.req.length p.reqC) /\ W.cell? ⟨n, 8, none⟩ = some (.slice p.conA p.con.length p.conC) /\ W.cell? ⟨n, 9, none⟩ = some (.slice p.obsA p.obs.length p.obsC) /\ W.cell? ⟨n, 10, none⟩ = some (.slice p.rcmA p.rcm.length p.rcmC) /\ W.cell? ⟨n, 11, none⟩ = some (.slice p.supA p.sup.length p.supC) /\ W.cell? ⟨n, 12, none⟩ = some (.slice p.sugA p.sug.length p.sugC) /\ W.cell? ⟨n, 13, none⟩ = some (.slice p.enhA p.enh.length p.enhC) /\ W.cell? ⟨n, 14, none⟩ = some (.slice p.filesA p.files.length p.filesC) /\ W.cell? ⟨(n + 1), 0, none⟩ = some (.string (bs d.name)) /\ W.cell? ⟨(n + 1), 1, none⟩ = some (.int .u8 d.op) /\ W.cell? ⟨(n + 1), 2, none⟩ = some (.int .i64 d.evr.epoch) /\ W.cell? ⟨(n + 1), 3, none⟩ = some (.string (bs d.evr.ver)) /\ W.cell? ⟨(n + 1), 4, none⟩ = some (.string (bs d.evr.rel)) /\ n < W.heap.size /\ (n + 1) < W.heap.size /\ Below n w W := by
 refine ⟨?_, ?_, ?_, ?_, ?_, ?_, ?_, ?_, ?_, ?_, ?_, ?_, ?_, ?_, ?_, ?_, ?_, ?_, ?_, ?_, ?_, ?_, ?_⟩
 all_goals first | exact (World.cell?_alloc_at _ _ _ _ (by simp)).trans rfl | exact (World.cell?_alloc_past _ _ _ (by simp; try omega)).trans ((World.cell?_alloc_at _ _ _ _ (by simp)).trans rfl) | exact ((bR.alloc (by simp; try omega) _).alloc (by simp; try omega) _) | (simp; try omega)
theorem qKB (p : Pk) (d : Dp) (w : World) (ho : p.evr.ok) (hd : d.evr.ok) (h1 : 0 <= d.op /\ d.op <= 255) : Calls Tryz.prog 66 #[p.val, d.val] w fun r w' => r = .returned (.bool (qAP p.ownD d)) /\ Below w.heap.size w w' := by
 have OW := hid (fun W => qQ0 p W);have ME := hid (fun W => qO9 p.ownD d W ho hd ⟨show (0 : Int) <= 2 by decide, show (2 : Int) <= 255 by decide⟩ h1);generalize qAP p.ownD d = r at *;unfold Pk.val Pk.ownD Dp.val Pk.evr at *;dsimp only at OW ME |-;have S0 := qQS p d w;dsimp only at S0
 go_enter Tryz.func66, Tryz.ntmps66
 go_wp2_with fail
 generalize ((w.alloc (.cells #[.string p.name, .int .i64 p.epoch, .string p.ver, .string p.rel, .int .u8 p.arch, .string p.vendor, .slice p.provA p.prov.length p.provC, .slice p.reqA p.req.length p.reqC, .slice p.conA p.con.length p.conC, .slice p.obsA p.obs.length p.obsC, .slice p.rcmA p.rcm.length p.rcmC, .slice p.supA p.sup.length p.supC, .slice p.sugA p.sug.length p.sugC, .slice p.enhA p.enh.length p.enhC, .slice p.filesA p.files.length p.filesC] 28)).alloc (.cells #[.string (bs d.name), .int .u8 d.op, .int .i64 d.evr.epoch, .string (bs d.evr.ver), .string (bs d.evr.rel)] 37)) = W at *;generalize hn : w.heap.size = n at *;obtain ⟨c0_0, c0_1, c0_2, c0_3, c0_4, c0_5, c0_6, c0_7, c0_8, c0_9, c0_10, c0_11, c0_12, c0_13, c0_14, c1_0, c1_1, c1_2, c1_3, c1_4, l0, l1, hB⟩ := id S0
 go_region_held3 (fun W => W.cell? ⟨n, 0, none⟩ = some (.string p.name) /\ W.cell? ⟨n, 1, none⟩ = some (.int .i64 p.epoch) /\ W.cell? ⟨n, 2, none⟩ = some (.string p.ver) /\ W.cell? ⟨n, 3, none⟩ = some (.string p.rel) /\ W.cell? ⟨n, 4, none⟩ = some (.int .u8 p.arch) /\ W.cell? ⟨n, 5, none⟩ = some (.string p.vendor) /\ W.cell? ⟨n, 6, none⟩ = some (.slice p.provA p.prov.length p.provC) /\ W.cell? ⟨n, 7, none⟩ = some (.slice p.reqA p.req.length p.reqC) /\ W.cell? ⟨n, 8, none⟩ = some (.slice p.conA p.con.length p.conC) /\ W.cell? ⟨n, 9, none⟩ = some (.slice p.obsA p.obs.length p.obsC) /\ W.cell? ⟨n, 10, none⟩ = some (.slice p.rcmA p.rcm.length p.rcmC) /\ W.cell? ⟨n, 11, none⟩ = some (.slice p.supA p.sup.length p.supC) /\ W.cell? ⟨n, 12, none⟩ = some (.slice p.sugA p.sug.length p.sugC) /\ W.cell? ⟨n, 13, none⟩ = some (.slice p.enhA p.enh.length p.enhC) /\ W.cell? ⟨n, 14, none⟩ = some (.slice p.filesA p.files.length p.filesC) /\ W.cell? ⟨(n + 1), 0, none⟩ = some (.string (bs d.name)) /\ W.cell? ⟨(n + 1), 1, none⟩ = some (.int .u8 d.op) /\ W.cell? ⟨(n + 1), 2, none⟩ = some (.int .i64 d.evr.epoch) /\ W.cell? ⟨(n + 1), 3, none⟩ = some (.string (bs d.evr.ver)) /\ W.cell? ⟨(n + 1), 4, none⟩ = some (.string (bs d.evr.rel)) /\ n < W.heap.size /\ (n + 1) < W.heap.size /\ Below n w W) (first | exact qR7 (by assumption) hbb | exact ⟨c0_0, c0_1, c0_2, c0_3, c0_4, c0_5, c0_6, c0_7, c0_8, c0_9, c0_10, c0_11, c0_12, c0_13, c0_14, c1_0, c1_1, c1_2, c1_3, c1_4, l0, l1, hB.drew⟩ | go_keep) (first | (go_at_call 121; refine (OW.out _).mono ?_; rintro e w' ⟨rfl, hbb⟩) | (go_at_call 105; refine (ME.out _).mono ?_; rintro e w' ⟨rfl, hbb⟩))
 rename_i hh
 have hB2 := qOP hh;go_wp2
 go_ret;exact ⟨rfl, by rw [hn]; exact hB2⟩
def qVN (w : World) (g : FuncId) (cap : Array Value) (p : Dp -> Bool) (l : List Dp) : Prop := ∀ d ∈ l, ∀ W, Below w.heap.size w W -> Calls Tryz.prog g (#[d.val] ++ cap) W fun e w' => e = .returned (.bool (p d)) /\ Below W.heap.size W w'
theorem qNZ (g : FuncId) (eg : ∀ args w, (callFunc g args).run Tryz.prog w = .ok (.enter g args) w) (cp : Array Value) (p : Dp -> Bool) (l : List Dp) (A : Option Addr) (c : Nat) (w : World) (hl : Rd encD 5 w.heap.size A c l w) (hn : l.length <= 1000000) (hp : qVN w g cp p l) :
  Calls Tryz.prog 146 #[.slice A l.length c, .func (.func g) #[] cp] w fun e w' => ∃ i : Int, e = .returned (.int .i64 i) /\ (decide (0 <= i) = l.any p) /\ Below w.heap.size w w' := by
 have HL := hid hl;have HP := hid hp;obtain ⟨n, hnn⟩ : ∃ n, n = l.length := ⟨_, rfl⟩;rw [<- hnn] at hn |-;have HN := hid hnn;clear hl hp hnn
 go_enter Tryz.func146, Tryz.ntmps146
 go_wp2_with fail
 go_loopw [8] (fun i wr => ∃ k : Nat, k <= n /\ i = .int .i64 (k : Int) /\ Hid (∀ j (hj : j < l.length), j < k -> p l[j] = false) /\ Below w.heap.size w wr) (fun i _ => n - (intOf i).toNat)
 case atStart => exact ⟨0, by omega, rfl, hid (by intro j hj h; omega), Below.refl _ _⟩
 case round =>
  obtain ⟨k, hk, rfl, hS, hB⟩ := hrel;rename World => wr
  by_cases hlt : k < n
  ·have hkl : k < l.length := by have := HN.out; omega
   obtain ⟨b, o, rfl, hb, c0, c1, c2, c3, c4⟩ := (HL.out.below hB).dep_at hkl;have CP := hid (HP.out _ (List.getElem_mem hkl) wr hB);have HT := hid (fun (h : p l[k] = true) => show l.any p = true from List.any_eq_true.2 ⟨_, List.getElem_mem hkl, h⟩);have HF := hid (fun (h : p l[k] = false) => show ∀ j (hj : j < l.length), j < k + 1 -> p l[j] = false from fun j hj hjk => by
    by_cases e : j = k
    ·subst e; exact h
    ·exact hS.out j hj (by omega))
   have i0 : (0 : Int) <= (k : Int) := by omega
   have i1 : (k : Int) < (n : Int) := by omega
   generalize l[k] = d at *;generalize p d = r at *;unfold Dp.val at CP;clear hS;go_wp2_with fail
   go_at_fn g
   refine CP.out.mono ?_;rintro e w2 ⟨rfl, h⟩;have hB2 := hB.trans (h.mono hB.size);cases r
   ·go_wp2_with fail
    go_roundw
    case rel => exact ⟨k + 1, by omega, by go_num, hid (HF.out (by trivial)), hB2⟩
    case measure => simp [intOf]; omega
   ·have HA := hid (show l.any p = true from HT.out (by trivial));go_wp2_with fail
    go_ret;exact ⟨(k : Int), rfl, by rw [HA.out]; simp, hB2⟩
  ·have i1 : ¬ (k : Int) < (n : Int) := by omega
   have HA : l.any p = false := List.any_eq_false.2 fun d hd => by obtain ⟨j, hj, rfl⟩ := List.getElem_of_mem hd; rw [hS.out j hj (by have := HN.out; omega)]; decide
   go_wp2_with fail
   go_ret;exact ⟨-1, rfl, by decide, hB⟩
theorem qHP (g : FuncId) (eg : ∀ args w, (callFunc g args).run Tryz.prog w = .ok (.enter g args) w) (cp : Array Value) (p : Dp -> Bool) (l : List Dp) (A : Option Addr) (c : Nat) (w : World) (hl : Rd encD 5 w.heap.size A c l w) (hn : l.length <= 1000000) (hp : qVN w g cp p l) :
  Calls Tryz.prog 103 #[.slice A l.length c, .func (.func g) #[] cp] w fun e w' => e = .returned (.bool (l.any p)) /\ Below w.heap.size w w' := by
 have ID := hid (qNZ g eg cp p l A c w hl hn hp);clear hl hp;generalize l.any p = r at *;generalize l.length = n at *
 go_enter Tryz.func103, Tryz.ntmps103
 go_wp2_with fail
 go_at_call 146
 refine ID.out.mono ?_;rintro e w2 ⟨i, rfl, hi, h⟩;have HI := hid hi;clear hi;go_wp2
 go_ret;exact ⟨qAA HI.out, h⟩
def PkAt (W : World) (b : Nat) (p : Pk) : Prop := b < W.heap.size /\ W.cell? ⟨b, 0, none⟩ = some (.string p.name) /\ W.cell? ⟨b, 1, none⟩ = some (.int .i64 p.epoch) /\ W.cell? ⟨b, 2, none⟩ = some (.string p.ver) /\ W.cell? ⟨b, 3, none⟩ = some (.string p.rel) /\ W.cell? ⟨b, 4, none⟩ = some (.int .u8 p.arch) /\ W.cell? ⟨b, 5, none⟩ = some (.string p.vendor) /\ W.cell? ⟨b, 6, none⟩ = some (.slice p.provA p.prov.length p.provC) /\ W.cell? ⟨b, 7, none⟩ = some (.slice p.reqA p.req.length p.reqC) /\ W.cell? ⟨b, 8, none⟩ = some (.slice p.conA p.con.length p.conC) /\ W.cell? ⟨b, 9, none⟩ = some (.slice p.obsA p.obs.length p.obsC) /\ W.cell? ⟨b, 10, none⟩ = some (.slice p.rcmA p.rcm.length p.rcmC) /\ W.cell? ⟨b, 11, none⟩ = some (.slice p.supA p.sup.length p.supC) /\ W.cell? ⟨b, 12, none⟩ = some (.slice p.sugA p.sug.length p.sugC) /\ W.cell? ⟨b, 13, none⟩ = some (.slice p.enhA p.enh.length p.enhC) /\ W.cell? ⟨b, 14, none⟩ = some (.slice p.filesA p.files.length p.filesC)
theorem PkAt.calls {W W' : World} {b : Nat} {p : Pk} (h : PkAt W b p) (hb : Below W.heap.size W W') : PkAt W' b p := by
 obtain ⟨hl, c0, c1, c2, c3, c4, c5, c6, c7, c8, c9, c10, c11, c12, c13, c14⟩ := h;exact ⟨Nat.lt_of_lt_of_le hl hb.size, (hb.cell (p := ⟨b, 0, none⟩) hl).trans c0, (hb.cell (p := ⟨b, 1, none⟩) hl).trans c1, (hb.cell (p := ⟨b, 2, none⟩) hl).trans c2, (hb.cell (p := ⟨b, 3, none⟩) hl).trans c3, (hb.cell (p := ⟨b, 4, none⟩) hl).trans c4, (hb.cell (p := ⟨b, 5, none⟩) hl).trans c5, (hb.cell (p := ⟨b, 6, none⟩) hl).trans c6, (hb.cell (p := ⟨b, 7, none⟩) hl).trans c7, (hb.cell (p := ⟨b, 8, none⟩) hl).trans c8, (hb.cell (p := ⟨b, 9, none⟩) hl).trans c9, (hb.cell (p := ⟨b, 10, none⟩) hl).trans c10, (hb.cell (p := ⟨b, 11, none⟩) hl).trans c11, (hb.cell (p := ⟨b, 12, none⟩) hl).trans c12, (hb.cell (p := ⟨b, 13, none⟩) hl).trans c13, (hb.cell (p := ⟨b, 14, none⟩) hl).trans c14⟩
theorem PkAt.new (W : World) (p : Pk) : PkAt (W.alloc (.cells #[.string p.name, .int .i64 p.epoch, .string p.ver, .string p.rel, .int .u8 p.arch, .string p.vendor, .slice p.provA p.prov.length p.provC, .slice p.reqA p.req.length p.reqC, .slice p.conA p.con.length p.conC, .slice p.obsA p.obs.length p.obsC, .slice p.rcmA p.rcm.length p.rcmC, .slice p.supA p.sup.length p.supC, .slice p.sugA p.sug.length p.sugC, .slice p.enhA p.enh.length p.enhC, .slice p.filesA p.files.length p.filesC] 28)) W.heap.size p :=
 ⟨by simp, (World.cell?_alloc_at _ _ _ _ rfl).trans rfl, (World.cell?_alloc_at _ _ _ _ rfl).trans rfl, (World.cell?_alloc_at _ _ _ _ rfl).trans rfl, (World.cell?_alloc_at _ _ _ _ rfl).trans rfl, (World.cell?_alloc_at _ _ _ _ rfl).trans rfl, (World.cell?_alloc_at _ _ _ _ rfl).trans rfl, (World.cell?_alloc_at _ _ _ _ rfl).trans rfl, (World.cell?_alloc_at _ _ _ _ rfl).trans rfl, (World.cell?_alloc_at _ _ _ _ rfl).trans rfl, (World.cell?_alloc_at _ _ _ _ rfl).trans rfl, (World.cell?_alloc_at _ _ _ _ rfl).trans rfl, (World.cell?_alloc_at _ _ _ _ rfl).trans rfl, (World.cell?_alloc_at _ _ _ _ rfl).trans rfl, (World.cell?_alloc_at _ _ _ _ rfl).trans rfl, (World.cell?_alloc_at _ _ _ _ rfl).trans rfl⟩
theorem qM7 {d : Dp} (h : d.small) : d.evr.ok := ⟨by have := h.2.1; omega, by have := h.2.2; omega⟩
theorem qSR (q : Pk) (d : Dp) (b : Nat) (W : World) (hq : PkAt W b q) (ho : q.evr.ok) (hd : d.evr.ok) (h1 : 0 <= d.op /\ d.op <= 255) : Calls Tryz.prog 203 #[d.val, .pointer (some ⟨b, 0, none⟩)] W fun r w' => r = .returned (.bool (qAP q.ownD d)) /\ Below W.heap.size W w' := by
 have NA := hid (fun W => qKB q d W ho hd h1);generalize qAP q.ownD d = r at *;unfold Pk.val Dp.val at *;obtain ⟨hl, c0, c1, c2, c3, c4, c5, c6, c7, c8, c9, c10, c11, c12, c13, c14⟩ := (hq.calls ((Below.refl _ W).alloc lR (.cells #[.string (bs d.name), .int .u8 d.op, .int .i64 d.evr.epoch, .string (bs d.evr.ver), .string (bs d.evr.rel)] 37)));clear hq
 go_enter Tryz.func203, Tryz.ntmps203
 go_wp2_with fail
 go_at_call 66
 refine (NA.out _).mono ?_;rintro e w2 ⟨rfl, h⟩;have hB := ((Below.refl W.heap.size W).alloc lR (.cells #[.string (bs d.name), .int .u8 d.op, .int .i64 d.evr.epoch, .string (bs d.evr.ver), .string (bs d.evr.rel)] 37)).trans (h.mono (by simp));go_wp2
 go_ret;exact ⟨rfl, hB⟩
theorem qP0 (p q : Pk) (w : World) (hL : p.Laid w.heap.size w) (sm : p.small) (ho : q.evr.ok) : Calls Tryz.prog 178 #[p.val, q.val] w fun r w' => r = .returned (.bool (p.obs.any fun d => qAP q.ownD d)) /\ Below w.heap.size w w' := by
 have b1 := (Below.refl w.heap.size w).alloc lR (.cells #[.string p.name, .int .i64 p.epoch, .string p.ver, .string p.rel, .int .u8 p.arch, .string p.vendor, .slice p.provA p.prov.length p.provC, .slice p.reqA p.req.length p.reqC, .slice p.conA p.con.length p.conC, .slice p.obsA p.obs.length p.obsC, .slice p.rcmA p.rcm.length p.rcmC, .slice p.supA p.sup.length p.supC, .slice p.sugA p.sug.length p.sugC, .slice p.enhA p.enh.length p.enhC, .slice p.filesA p.files.length p.filesC] 28);have b2 := b1.alloc (by simp) (.cells #[.string q.name, .int .i64 q.epoch, .string q.ver, .string q.rel, .int .u8 q.arch, .string q.vendor, .slice q.provA q.prov.length q.provC, .slice q.reqA q.req.length q.reqC, .slice q.conA q.con.length q.conC, .slice q.obsA q.obs.length q.obsC, .slice q.rcmA q.rcm.length q.rcmC, .slice q.supA q.sup.length q.supC, .slice q.sugA q.sug.length q.sugC, .slice q.enhA q.enh.length q.enhC, .slice q.filesA q.files.length q.filesC] 28);have hQ := PkAt.new (w.alloc (.cells #[.string p.name, .int .i64 p.epoch, .string p.ver, .string p.rel, .int .u8 p.arch, .string p.vendor, .slice p.provA p.prov.length p.provC, .slice p.reqA p.req.length p.reqC, .slice p.conA p.con.length p.conC, .slice p.obsA p.obs.length p.obsC, .slice p.rcmA p.rcm.length p.rcmC, .slice p.supA p.sup.length p.supC, .slice p.sugA p.sug.length p.sugC, .slice p.enhA p.enh.length p.enhC, .slice p.filesA p.files.length p.filesC] 28)) q;have hs : (w.alloc (.cells #[.string p.name, .int .i64 p.epoch, .string p.ver, .string p.rel, .int .u8 p.arch, .string p.vendor, .slice p.provA p.prov.length p.provC, .slice p.reqA p.req.length p.reqC, .slice p.conA p.con.length p.conC, .slice p.obsA p.obs.length p.obsC, .slice p.rcmA p.rcm.length p.rcmC, .slice p.supA p.sup.length p.supC, .slice p.sugA p.sug.length p.sugC, .slice p.enhA p.enh.length p.enhC, .slice p.filesA p.files.length p.filesC] 28)).heap.size = w.heap.size + 1 := by simp
 rw [hs] at hQ;have HC := hid (qHP 203 (fun _ _ => rfl) #[.pointer (some ⟨w.heap.size + 1, 0, none⟩)] (fun d => qAP q.ownD d) p.obs p.obsA p.obsC _ ((hL.obs.below b2).more b2.size) (by have := sm.obsN; omega) (fun d hd W hB => qSR q d _ W (hQ.calls hB) ho (qM7 (sm.obs d hd)) (qW8 (hL.obsW d hd).2.1)));generalize (p.obs.any fun d => qAP q.ownD d) = r at *;clear hL sm ho hQ hs;unfold Pk.val
 go_enter Tryz.func178, Tryz.ntmps178
 go_wp2_with fail
 go_at_call 103
 refine HC.out.mono ?_;rintro e w2 ⟨rfl, h⟩;have hB := b2.trans (h.mono b2.size);go_wp2
 go_ret;exact ⟨rfl, hB⟩
def qVP (w : World) (g : FuncId) (cap : Array Value) (p : ByteArray -> Bool) (l : List ByteArray) : Prop := ∀ s ∈ l, ∀ W, Below w.heap.size w W -> Calls Tryz.prog g (#[.string s] ++ cap) W fun e w' => e = .returned (.bool (p s)) /\ Below W.heap.size W w'
theorem qKC (g : FuncId) (eg : ∀ args w, (callFunc g args).run Tryz.prog w = .ok (.enter g args) w) (cp : Array Value) (p : ByteArray -> Bool) (l : List ByteArray) (A : Option Addr) (c : Nat) (w : World) (hl : Rd (fun s => [Value.string s]) 1 w.heap.size A c l w) (hn : l.length <= 1000000) (hp : qVP w g cp p l) :
  Calls Tryz.prog 194 #[.slice A l.length c, .func (.func g) #[] cp] w fun e w' => ∃ i : Int, e = .returned (.int .i64 i) /\ (decide (0 <= i) = l.any (p)) /\ Below w.heap.size w w' := by
 have HL := hid hl;have HP := hid hp;clear hp;obtain ⟨n, hnn⟩ : ∃ n, n = l.length := ⟨_, rfl⟩;rw [<- hnn] at hn |-;have HN := hid hnn;clear hl hnn
 go_enter Tryz.func194, Tryz.ntmps194
 go_wp2_with fail
 go_loopw [8] (fun i wr => ∃ k : Nat, k <= n /\ i = .int .i64 (k : Int) /\ Hid (∀ j (hj : j < l.length), j < k -> (p) l[j] = false) /\ Below w.heap.size w wr) (fun i _ => n - (intOf i).toNat)
 case atStart => exact ⟨0, by omega, rfl, hid (by intro j hj h; omega), Below.refl _ _⟩
 case round =>
  obtain ⟨k, hk, rfl, hS, hB⟩ := hrel;rename World => wr
  by_cases hlt : k < n
  ·have hkl : k < l.length := by have := HN.out; omega
   obtain ⟨b, o, rfl, hb, c0⟩ := (HL.out.below hB).at1 (f := fun s => Value.string s) (fun _ => rfl) hkl;have CP := hid (HP.out _ (List.getElem_mem hkl) wr hB);have HT := hid (fun (h : (p) l[k] = true) => show l.any (p) = true from List.any_eq_true.2 ⟨_, List.getElem_mem hkl, h⟩);have HF := hid (fun (h : (p) l[k] = false) => show ∀ j (hj : j < l.length), j < k + 1 -> (p) l[j] = false from fun j hj hjk => by
    by_cases e : j = k
    ·subst e; exact h
    ·exact hS.out j hj (by omega))
   have i0 : (0 : Int) <= (k : Int) := by omega
   have i1 : (k : Int) < (n : Int) := by omega
   generalize l[k] = d at *;generalize p d = r at *;clear hS;go_wp2_with fail
   go_at_fn g
   refine CP.out.mono ?_;rintro e w2 ⟨rfl, h⟩;have hB2 := hB.trans (h.mono hB.size);cases r
   ·have HF2 := hid (HF.out (by trivial));go_wp2_with fail
    go_roundw
    case rel => exact ⟨k + 1, by omega, by go_num, HF2, hB2⟩
    case measure => simp [intOf]; omega
   ·have HA := hid (show l.any p = true from HT.out (by trivial));go_wp2_with fail
    go_ret;exact ⟨(k : Int), rfl, by rw [HA.out]; simp, hB2⟩
  ·have i1 : ¬ (k : Int) < (n : Int) := by omega
   have HA := hid (show l.any (p) = false from List.any_eq_false.2 fun d hd => by obtain ⟨j, hj, rfl⟩ := List.getElem_of_mem hd; exact fun e => Bool.false_ne_true ((hS.out j hj (by have := HN.out; omega)).symm.trans e));go_wp2_with fail
   go_ret;exact ⟨-1, rfl, by rw [HA.out]; decide, hB⟩
theorem qKD (g : FuncId) (eg : ∀ args w, (callFunc g args).run Tryz.prog w = .ok (.enter g args) w) (cp : Array Value) (p : ByteArray -> Bool) (l : List ByteArray) (A : Option Addr) (c : Nat) (w : World) (hl : Rd (fun s => [Value.string s]) 1 w.heap.size A c l w) (hn : l.length <= 1000000) (hp : qVP w g cp p l) :
  Calls Tryz.prog 163 #[.slice A l.length c, .func (.func g) #[] cp] w fun e w' => e = .returned (.bool (l.any (p))) /\ Below w.heap.size w w' := by
 have ID := hid (qKC g eg cp p l A c w hl hn hp);clear hl;generalize l.any (p) = r at *;generalize l.length = n at *
 go_enter Tryz.func163, Tryz.ntmps163
 go_wp2_with fail
 go_at_call 194
 refine ID.out.mono ?_;rintro e w2 ⟨i, rfl, hi, h⟩;have HI := hid hi;clear hi;go_wp2
 go_ret;exact ⟨qAA HI.out, h⟩
def mayF : Value := .func (.func 101) #[] #[]
def qHZ : Value := .func (.func 114) #[] #[]
theorem qPQ (W : World) (v : Value) (t : TypeId) : W.heap.size < (W.alloc (.cells #[v] t)).heap.size /\ (W.alloc (.cells #[v] t)).cell? ⟨W.heap.size, 0, none⟩ = some v := ⟨by simp, (World.cell?_alloc_at _ _ _ _ rfl).trans rfl⟩
theorem qGL {W W' : World} {b : Nat} {v : Value} (h : b < W.heap.size /\ W.cell? ⟨b, 0, none⟩ = some v) (hb : Below W.heap.size W W') : b < W'.heap.size /\ W'.cell? ⟨b, 0, none⟩ = some v := ⟨Nat.lt_of_lt_of_le h.1 hb.size, (hb.cell (p := ⟨b, 0, none⟩) h.1).trans h.2⟩
theorem qMW (d : Dp) (b : Nat) (W : World) (hI : PkIn W) (hw : d.wf) (hb : b < W.heap.size /\ W.cell? ⟨b, 0, none⟩ = some mayF) : Calls Tryz.prog 162 #[d.val, .pointer (some ⟨b, 0, none⟩)] W fun r w' => r = .returned (.bool (!qAQ d)) /\ Below W.heap.size W w' := by
 have MY := hid (fun X (h : Below W.heap.size W X) => qOM d X hw (hI.below h));generalize qAQ d = r at *;have b1 := (Below.refl W.heap.size W).alloc lR (.cells #[.string (bs d.name), .int .u8 d.op, .int .i64 d.evr.epoch, .string (bs d.evr.ver), .string (bs d.evr.rel)] 37);obtain ⟨_, c0⟩ := qGL hb b1;unfold mayF at c0;unfold Dp.val at *;clear hI hb hw
 go_enter Tryz.func162, Tryz.ntmps162
 go_wp2_with fail
 go_at_call 101
 refine (MY.out _ b1).mono ?_;rintro e w2 ⟨rfl, h⟩;have hB := b1.trans (h.mono (by simp));cases r
 all_goals
  go_wp2
  go_ret;exact ⟨rfl, hB⟩
theorem qO1 (s : ByteArray) (b : Nat) (W : World) (hI : PkIn W) (hs : s.size <= maxLen) (hb : b < W.heap.size /\ W.cell? ⟨b, 0, none⟩ = some qHZ) : Calls Tryz.prog 164 #[.string s, .pointer (some ⟨b, 0, none⟩)] W fun r w' => r = .returned (.bool (!qCK s.toList)) /\ Below W.heap.size W w' := by
 have FY := hid (fun X (h : Below W.heap.size W X) => qI0 s X hs (hI.below h));generalize qCK s.toList = r at *;obtain ⟨_, c0⟩ := hb;unfold qHZ at c0;clear hI
 go_enter Tryz.func164, Tryz.ntmps164
 go_wp2_with fail
 go_at_call 114
 refine (FY.out _ bR).mono ?_;rintro e w2 ⟨rfl, h⟩;cases r
 all_goals
  go_wp2
  go_ret;exact ⟨rfl, h⟩
theorem qF5 (l : List Dp) (A : Option Addr) (c : Nat) (w : World) (hI : PkIn w) (hl : Rd encD 5 w.heap.size A c l w) (hw : ∀ d ∈ l, d.wf) : Calls Tryz.prog 117 #[.slice A l.length c, .int .i64 32, mayF] w fun r w' => r = .returned (.bool (decide (l.length <= 32) && l.all (qAQ))) /\ Below w.heap.size w w' := by
 have L1 := hl.len;have b1 := (Below.refl w.heap.size w).alloc lR (.cells #[mayF] 159);have hb := qPQ w mayF 159;have HC := hid (fun (hn : l.length <= 32) => qHP 162 (fun _ _ => rfl) #[.pointer (some ⟨w.heap.size, 0, none⟩)] (fun x => !qAQ x) l A c _ ((hl.below b1).more b1.size) (by omega) (fun d hd W hB => qMW d _ W (hI.below (b1.trans (hB.mono b1.size))) (hw d hd) (qGL hb hB)));have HR := hid (show (!l.any (fun x => !qAQ x)) = l.all (qAQ) from by rw [List.all_eq_not_any_not]);clear hI hl hw;unfold mayF;by_cases hn : l.length <= 32
 ·have hn2 : (l.length : Int) <= 32 := by omega
  have HC2 := hid (HC.out hn);have e : decide (l.length <= 32) = true := decide_eq_true hn;rw [e, <- HR.out];clear e HC HR hn;unfold mayF at HC2 b1;generalize (l.any fun x => !qAQ x) = r at *;generalize l.length = n at *
  go_enter Tryz.func117, Tryz.ntmps117
  go_wp2_with fail
  go_at_call 103
  refine HC2.out.mono ?_;rintro e w2 ⟨rfl, h⟩;have hB := b1.trans (h.mono b1.size);cases r
  all_goals
   go_wp2
   go_ret;exact ⟨rfl, hB⟩
 ·have hn2 : ¬ (l.length : Int) <= 32 := by omega
  have e : decide (l.length <= 32) = false := decide_eq_false hn;rw [e];unfold mayF at b1;clear e HC HR hn;generalize l.all qAQ = r at *;generalize l.length = n at *
  go_enter Tryz.func117, Tryz.ntmps117
  go_wp2
  go_ret;exact ⟨by simp, b1⟩
def qD7 (s : ByteArray) : Bool := qCK s.toList
theorem qJR (l : List ByteArray) (A : Option Addr) (c : Nat) (w : World) (hI : PkIn w) (hl : Rd (fun s => [Value.string s]) 1 w.heap.size A c l w) (hw : ∀ s ∈ l, s.size <= maxLen) : Calls Tryz.prog 118 #[.slice A l.length c, .int .i64 32, qHZ] w fun r w' => r = .returned (.bool (decide (l.length <= 32) && l.all (qD7))) /\ Below w.heap.size w w' := by
 have L1 := hl.len;have b1 := (Below.refl w.heap.size w).alloc lR (.cells #[qHZ] 169);have hb := qPQ w qHZ 169;have HC := hid (fun (hn : l.length <= 32) => qKD 164 (fun _ _ => rfl) #[.pointer (some ⟨w.heap.size, 0, none⟩)] (fun x => !qD7 x) l A c _ ((hl.below b1).more b1.size) (by omega) (fun d hd W hB => qO1 d _ W (hI.below (b1.trans (hB.mono b1.size))) (hw d hd) (qGL hb hB)));have HR := hid (show (!l.any (fun x => !qD7 x)) = l.all (qD7) from by rw [List.all_eq_not_any_not]);clear hI hl hw;unfold qHZ;by_cases hn : l.length <= 32
 ·have hn2 : (l.length : Int) <= 32 := by omega
  have HC2 := hid (HC.out hn);have e : decide (l.length <= 32) = true := decide_eq_true hn;rw [e, <- HR.out];clear e HC HR hn;unfold qHZ at HC2 b1;generalize (l.any fun x => !qD7 x) = r at *;generalize l.length = n at *
  go_enter Tryz.func118, Tryz.ntmps118
  go_wp2_with fail
  go_at_call 163
  refine HC2.out.mono ?_;rintro e w2 ⟨rfl, h⟩;have hB := b1.trans (h.mono b1.size);cases r
  all_goals
   go_wp2
   go_ret;exact ⟨rfl, hB⟩
 ·have hn2 : ¬ (l.length : Int) <= 32 := by omega
  have e : decide (l.length <= 32) = false := decide_eq_false hn;rw [e];unfold qHZ at b1;clear e HC HR hn
  skip
  skip
  go_enter Tryz.func118, Tryz.ntmps118
  go_wp2
  go_ret;exact ⟨by simp, b1⟩
theorem qQI (w : World) : Calls Tryz.prog 161 #[] w fun r w' => r = .returned (.agg #[.string ⟨#[]⟩, .string ⟨#[110, 111, 97, 114, 99, 104]⟩, .string ⟨#[120, 56, 54, 95, 54, 52]⟩, .string ⟨#[105, 54, 56, 54]⟩, .string ⟨#[97, 97, 114, 99, 104, 54, 52]⟩]) /\ Below w.heap.size w w' := by
 go_enter Tryz.func161, Tryz.ntmps161
 go_wp2_with fail
 exact bodyPost_ret (v := .agg #[.string ⟨#[]⟩, .string ⟨#[110, 111, 97, 114, 99, 104]⟩, .string ⟨#[120, 56, 54, 95, 54, 52]⟩, .string ⟨#[105, 54, 56, 54]⟩, .string ⟨#[97, 97, 114, 99, 104, 54, 52]⟩]) (by simp [results, Tryz.results161, go_sem]) rfl ⟨rfl, bR.alloc lR _⟩
theorem qKG (p : Pk) (w : World) : Calls Tryz.prog 68 #[p.val] w fun r w' => r = .returned (.func (.func 123) #[] #[.pointer (some ⟨w.heap.size, 0, none⟩)]) /\ w' = w.alloc (.cells #[.string p.name, .int .i64 p.epoch, .string p.ver, .string p.rel, .int .u8 p.arch, .string p.vendor, .slice p.provA p.prov.length p.provC, .slice p.reqA p.req.length p.reqC, .slice p.conA p.con.length p.conC, .slice p.obsA p.obs.length p.obsC, .slice p.rcmA p.rcm.length p.rcmC, .slice p.supA p.sup.length p.supC, .slice p.sugA p.sug.length p.sugC, .slice p.enhA p.enh.length p.enhC, .slice p.filesA p.files.length p.filesC] 28) := by
 unfold Pk.val
 go_enter Tryz.func68, Tryz.ntmps68
 go_wp2_with fail
 go_ret;exact ⟨rfl, rfl⟩
