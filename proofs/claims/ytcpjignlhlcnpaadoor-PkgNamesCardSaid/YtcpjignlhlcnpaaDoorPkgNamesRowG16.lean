/- PkB -/
import Derived.Test.YtcpjignlhlcnpaaDoorPkgNamesRowG11
import Derived.Test.YtcpjignlhlcnpaaDoorPkgNamesRowG15
import Derived.Deep.RegionHeld3
set_option linter.unusedSimpArgs false
set_option linter.unusedVariables false
/- joined: PkNamed, PkNamed2, PkFunc, PkObs, PkFunc2, PkProv, PkEvery -/




namespace Go.Proofs.YtcpjignlhlcnpaaDoor
open Go.RowKit Go.Shelf
set_option linter.unusedVariables false
/- Walks: a package's own, whether it is named by a dependency. -/

def Pk.ownD (p : Pk) : Dp := ⟨p.name.toList, 2, p.evr⟩
theorem down_pk (p : Pk) (w : World) : Calls Tryd.prog 57 #[.string p.name, .agg #[.int .i64 p.epoch, .string p.ver, .string p.rel]] w fun r w' => r = .returned p.ownD.val ∧ Below w.heap.size w w' := by
  have h := down_any p.name p.evr w
  unfold Evr.val Pk.evr at h
  dsimp only at h
  rw [bs_of, bs_of] at h
  unfold Pk.ownD Dp.val Pk.evr
  dsimp only
  rw [bs_of, bs_of, bs_of]
  exact h
/-- five cells written, one behind the other -/
theorem five_set {W : World} {r : Nat} (h : ∀ i, i < 5 → ∃ v, W.cell? ⟨r, i, none⟩ = some v) (a b c d e : Value) : let U := ((((W.setCell ⟨r, 0, none⟩ a).setCell ⟨r, 1, none⟩ b).setCell ⟨r, 2, none⟩ c).setCell ⟨r, 3, none⟩ d).setCell ⟨r, 4, none⟩ e; U.cell? ⟨r, 0, none⟩ = some a ∧ U.cell? ⟨r, 1, none⟩ = some b ∧ U.cell? ⟨r, 2, none⟩ = some c ∧ U.cell? ⟨r, 3, none⟩ = some d ∧ U.cell? ⟨r, 4, none⟩ = some e ∧ ∀ {n : Nat} {w : World}, n ≤ r → Below n w W → Below n w U := by
  obtain ⟨v0, h0⟩ := h 0 (by decide)
  obtain ⟨v1, h1⟩ := h 1 (by decide)
  obtain ⟨v2, h2⟩ := h 2 (by decide)
  obtain ⟨v3, h3⟩ := h 3 (by decide)
  obtain ⟨v4, h4⟩ := h 4 (by decide)
  have o : ∀ (X : World) (i j : Nat) (v : Value), i ≠ j → (X.setCell ⟨r, i, none⟩ v).cell? ⟨r, j, none⟩ = X.cell? ⟨r, j, none⟩ := fun X i j v hij => World.cell?_setCell_other _ _ _ _ (fun e => hij (by injection e))
  refine ⟨?_, ?_, ?_, ?_, ?_, ?_⟩
  · rw [o _ 4 0 _ (by decide), o _ 3 0 _ (by decide), o _ 2 0 _ (by decide), o _ 1 0 _ (by decide)]; exact World.cell?_setCell_same _ _ _ h0
  · rw [o _ 4 1 _ (by decide), o _ 3 1 _ (by decide), o _ 2 1 _ (by decide)]; exact World.cell?_setCell_same _ _ _ ((o _ 0 1 _ (by decide)).trans h1)
  · rw [o _ 4 2 _ (by decide), o _ 3 2 _ (by decide)]; exact World.cell?_setCell_same _ _ _ (((o _ 1 2 _ (by decide)).trans (o _ 0 2 _ (by decide))).trans h2)
  · rw [o _ 4 3 _ (by decide)]; exact World.cell?_setCell_same _ _ _ ((((o _ 2 3 _ (by decide)).trans (o _ 1 3 _ (by decide))).trans (o _ 0 3 _ (by decide))).trans h3)
  · exact World.cell?_setCell_same _ _ _ (((((o _ 3 4 _ (by decide)).trans (o _ 2 4 _ (by decide))).trans (o _ 1 4 _ (by decide))).trans (o _ 0 4 _ (by decide))).trans h4)
  · intro n w hn hB
    exact ((((hB.setCell hn _).setCell hn _).setCell hn _).setCell hn _).setCell hn _
set_option maxRecDepth 100000 in
set_option maxHeartbeats 16000000 in
theorem pkown_any (p : Pk) (w : World) : Calls Tryd.prog 46 #[p.val] w fun r w' => r = .returned p.ownD.val ∧ Below w.heap.size w w' := by
  have D := Lib.hid (fun W => down_pk p W)
  unfold Pk.val
  go_enter Tryd.func46, Tryd.ntmps46
  go_wp2_with fail
  go_at_call 57
  refine (D.out _).mono ?_
  rintro e w2 ⟨rfl, h⟩
  have hb := ((Below.refl w.heap.size w).alloc (Nat.le_refl _) (.cells #[.string p.name, .int .i64 p.epoch, .string p.ver, .string p.rel, .int .u8 p.arch, .string p.vendor, .slice p.provA p.prov.length p.provC, .slice p.reqA p.req.length p.reqC, .slice p.conA p.con.length p.conC, .slice p.obsA p.obs.length p.obsC, .slice p.rcmA p.rcm.length p.rcmC, .slice p.supA p.sup.length p.supC, .slice p.sugA p.sug.length p.sugC, .slice p.enhA p.enh.length p.enhC, .slice p.filesA p.files.length p.filesC] 33)).alloc (by simp) (.cells #[.string ⟨#[]⟩, .int .u8 0, .int .i64 0, .string ⟨#[]⟩, .string ⟨#[]⟩] 25)
  have hB := hb.trans (h.mono hb.size)
  have z0 : w2.cell? ⟨w.heap.size + 1, 0, none⟩ = some (.string ⟨#[]⟩) := (h.cell (p := ⟨w.heap.size + 1, 0, none⟩) (by simp)).trans ((World.cell?_alloc_at _ _ _ _ (by simp)).trans rfl)
  have f0 : w2.frozen? ⟨w.heap.size + 1, 0, none⟩ = false := (h.frozen (p := ⟨w.heap.size + 1, 0, none⟩) (by simp)).trans (World.frozen?_alloc_at _ _ _ _ (by simp))
  have z1 : w2.cell? ⟨w.heap.size + 1, 1, none⟩ = some (.int .u8 0) := (h.cell (p := ⟨w.heap.size + 1, 1, none⟩) (by simp)).trans ((World.cell?_alloc_at _ _ _ _ (by simp)).trans rfl)
  have f1 : w2.frozen? ⟨w.heap.size + 1, 1, none⟩ = false := (h.frozen (p := ⟨w.heap.size + 1, 1, none⟩) (by simp)).trans (World.frozen?_alloc_at _ _ _ _ (by simp))
  have z2 : w2.cell? ⟨w.heap.size + 1, 2, none⟩ = some (.int .i64 0) := (h.cell (p := ⟨w.heap.size + 1, 2, none⟩) (by simp)).trans ((World.cell?_alloc_at _ _ _ _ (by simp)).trans rfl)
  have f2 : w2.frozen? ⟨w.heap.size + 1, 2, none⟩ = false := (h.frozen (p := ⟨w.heap.size + 1, 2, none⟩) (by simp)).trans (World.frozen?_alloc_at _ _ _ _ (by simp))
  have z3 : w2.cell? ⟨w.heap.size + 1, 3, none⟩ = some (.string ⟨#[]⟩) := (h.cell (p := ⟨w.heap.size + 1, 3, none⟩) (by simp)).trans ((World.cell?_alloc_at _ _ _ _ (by simp)).trans rfl)
  have f3 : w2.frozen? ⟨w.heap.size + 1, 3, none⟩ = false := (h.frozen (p := ⟨w.heap.size + 1, 3, none⟩) (by simp)).trans (World.frozen?_alloc_at _ _ _ _ (by simp))
  have z4 : w2.cell? ⟨w.heap.size + 1, 4, none⟩ = some (.string ⟨#[]⟩) := (h.cell (p := ⟨w.heap.size + 1, 4, none⟩) (by simp)).trans ((World.cell?_alloc_at _ _ _ _ (by simp)).trans rfl)
  have f4 : w2.frozen? ⟨w.heap.size + 1, 4, none⟩ = false := (h.frozen (p := ⟨w.heap.size + 1, 4, none⟩) (by simp)).trans (World.frozen?_alloc_at _ _ _ _ (by simp))
  have S := five_set (W := w2) (r := w.heap.size + 1) (fun i hi => match i, hi with | 0, _ => ⟨_, z0⟩ | 1, _ => ⟨_, z1⟩ | 2, _ => ⟨_, z2⟩ | 3, _ => ⟨_, z3⟩ | 4, _ => ⟨_, z4⟩) (.string (bs p.name.toList)) (.int .u8 2) (.int .i64 p.epoch) (.string (bs p.ver.toList)) (.string (bs p.rel.toList))
  dsimp only at S
  clear h hb D
  unfold Pk.ownD Dp.val Pk.evr
  dsimp only
  obtain ⟨s0, s1, s2, s3, s4, hS⟩ := S
  go_wp2_with fail
  exact bodyPost_ret (v := .agg #[.string (bs p.name.toList), .int .u8 2, .int .i64 p.epoch, .string (bs p.ver.toList), .string (bs p.rel.toList)]) (by simp [results, Tryd.results46, go_sem, s0, s1, s2, s3, s4]) rfl ⟨rfl, hS (by simp) hB⟩
/-- is it of the dependency's name, and meets it? -/
def meetsN (a d : Dp) : Bool := (a.name == d.name) && meetP a d
set_option maxRecDepth 100000 in
set_option maxHeartbeats 16000000 in
theorem meets_any (a d : Dp) (w : World) (ha : a.evr.ok) (hd : d.evr.ok) (h0 : 0 ≤ a.op ∧ a.op ≤ 255) (h1 : 0 ≤ d.op ∧ d.op ≤ 255) : Calls Tryd.prog 45 #[a.val, d.val] w fun r w' => r = .returned (.bool (meetsN a d)) ∧ Below w.heap.size w w' := by
  have M := Lib.hid (fun W => meet_any a d W ha hd h0.1 h0.2 h1.1 h1.2)
  have sa := bs_toList a.name
  have sd := bs_toList d.name
  by_cases hn : a.name = d.name
  · have e : meetsN a d = meetP a d := by unfold meetsN; rw [hn]; simp
    rw [e]
    have q1 : ((bs a.name).toList == (bs d.name).toList) = true := by rw [sa, sd, hn]; simp
    have q2 : (bs a.name).toList = (bs d.name).toList := by rw [sa, sd, hn]
    generalize meetP a d = r at *
    clear e hn sa sd
    unfold Dp.val at M ⊢
    have hb := ((Below.refl w.heap.size w).alloc (Nat.le_refl _) (.cells #[.string (bs a.name), .int .u8 a.op, .int .i64 a.evr.epoch, .string (bs a.evr.ver), .string (bs a.evr.rel)] 25)).alloc (by simp) (.cells #[.string (bs d.name), .int .u8 d.op, .int .i64 d.evr.epoch, .string (bs d.evr.ver), .string (bs d.evr.rel)] 25)
    go_enter Tryd.func45, Tryd.ntmps45
    go_wp2_with fail
    go_at_call 56
    refine (M.out _).mono ?_
    rintro e w2 ⟨rfl, h⟩
    have hB := hb.trans (h.mono hb.size)
    go_wp2
    go_ret
    exact ⟨rfl, hB⟩
  · have e : meetsN a d = false := by unfold meetsN; rw [beq_eq_false_iff_ne.2 hn]; rfl
    rw [e]
    have q1 : ((bs a.name).toList == (bs d.name).toList) = false := by rw [sa, sd]; exact beq_eq_false_iff_ne.2 hn
    have q2 : ¬ (bs a.name).toList = (bs d.name).toList := by rw [sa, sd]; exact hn
    clear e hn sa sd M
    unfold Dp.val
    go_enter Tryd.func45, Tryd.ntmps45
    go_wp2_with fail
    go_ret
    exact ⟨rfl, ((Below.refl w.heap.size w).alloc (Nat.le_refl _) _).alloc (by simp) _⟩

/- Walks: whether a package is named by a dependency. -/

theorem keep_nm {p : Pk} {d : Dp} {n : Nat} {w W W' : World} (h : W.cell? ⟨n, 0, none⟩ = some (.string p.name) ∧ W.cell? ⟨n, 1, none⟩ = some (.int .i64 p.epoch) ∧ W.cell? ⟨n, 2, none⟩ = some (.string p.ver) ∧ W.cell? ⟨n, 3, none⟩ = some (.string p.rel) ∧ W.cell? ⟨n, 4, none⟩ = some (.int .u8 p.arch) ∧ W.cell? ⟨n, 5, none⟩ = some (.string p.vendor) ∧ W.cell? ⟨n, 6, none⟩ = some (.slice p.provA p.prov.length p.provC) ∧ W.cell? ⟨n, 7, none⟩ = some (.slice p.reqA p.req.length p.reqC) ∧ W.cell? ⟨n, 8, none⟩ = some (.slice p.conA p.con.length p.conC) ∧ W.cell? ⟨n, 9, none⟩ = some (.slice p.obsA p.obs.length p.obsC) ∧ W.cell? ⟨n, 10, none⟩ = some (.slice p.rcmA p.rcm.length p.rcmC) ∧ W.cell? ⟨n, 11, none⟩ = some (.slice p.supA p.sup.length p.supC) ∧ W.cell? ⟨n, 12, none⟩ = some (.slice p.sugA p.sug.length p.sugC) ∧ W.cell? ⟨n, 13, none⟩ = some (.slice p.enhA p.enh.length p.enhC) ∧ W.cell? ⟨n, 14, none⟩ = some (.slice p.filesA p.files.length p.filesC) ∧ W.cell? ⟨(n + 1), 0, none⟩ = some (.string (bs d.name)) ∧ W.cell? ⟨(n + 1), 1, none⟩ = some (.int .u8 d.op) ∧ W.cell? ⟨(n + 1), 2, none⟩ = some (.int .i64 d.evr.epoch) ∧ W.cell? ⟨(n + 1), 3, none⟩ = some (.string (bs d.evr.ver)) ∧ W.cell? ⟨(n + 1), 4, none⟩ = some (.string (bs d.evr.rel)) ∧ n < W.heap.size ∧ (n + 1) < W.heap.size ∧ Below n w W) (hb : Below W.heap.size W W') :
    W'.cell? ⟨n, 0, none⟩ = some (.string p.name) ∧ W'.cell? ⟨n, 1, none⟩ = some (.int .i64 p.epoch) ∧ W'.cell? ⟨n, 2, none⟩ = some (.string p.ver) ∧ W'.cell? ⟨n, 3, none⟩ = some (.string p.rel) ∧ W'.cell? ⟨n, 4, none⟩ = some (.int .u8 p.arch) ∧ W'.cell? ⟨n, 5, none⟩ = some (.string p.vendor) ∧ W'.cell? ⟨n, 6, none⟩ = some (.slice p.provA p.prov.length p.provC) ∧ W'.cell? ⟨n, 7, none⟩ = some (.slice p.reqA p.req.length p.reqC) ∧ W'.cell? ⟨n, 8, none⟩ = some (.slice p.conA p.con.length p.conC) ∧ W'.cell? ⟨n, 9, none⟩ = some (.slice p.obsA p.obs.length p.obsC) ∧ W'.cell? ⟨n, 10, none⟩ = some (.slice p.rcmA p.rcm.length p.rcmC) ∧ W'.cell? ⟨n, 11, none⟩ = some (.slice p.supA p.sup.length p.supC) ∧ W'.cell? ⟨n, 12, none⟩ = some (.slice p.sugA p.sug.length p.sugC) ∧ W'.cell? ⟨n, 13, none⟩ = some (.slice p.enhA p.enh.length p.enhC) ∧ W'.cell? ⟨n, 14, none⟩ = some (.slice p.filesA p.files.length p.filesC) ∧ W'.cell? ⟨(n + 1), 0, none⟩ = some (.string (bs d.name)) ∧ W'.cell? ⟨(n + 1), 1, none⟩ = some (.int .u8 d.op) ∧ W'.cell? ⟨(n + 1), 2, none⟩ = some (.int .i64 d.evr.epoch) ∧ W'.cell? ⟨(n + 1), 3, none⟩ = some (.string (bs d.evr.ver)) ∧ W'.cell? ⟨(n + 1), 4, none⟩ = some (.string (bs d.evr.rel)) ∧ n < W'.heap.size ∧ (n + 1) < W'.heap.size ∧ Below n w W' := by
  obtain ⟨c0_0, c0_1, c0_2, c0_3, c0_4, c0_5, c0_6, c0_7, c0_8, c0_9, c0_10, c0_11, c0_12, c0_13, c0_14, c1_0, c1_1, c1_2, c1_3, c1_4, l0, l1, hB⟩ := h
  have hB_le : n ≤ W.heap.size := by omega
  exact ⟨(hb.cell (p := ⟨n, 0, none⟩) l0).trans c0_0, (hb.cell (p := ⟨n, 1, none⟩) l0).trans c0_1, (hb.cell (p := ⟨n, 2, none⟩) l0).trans c0_2, (hb.cell (p := ⟨n, 3, none⟩) l0).trans c0_3, (hb.cell (p := ⟨n, 4, none⟩) l0).trans c0_4, (hb.cell (p := ⟨n, 5, none⟩) l0).trans c0_5, (hb.cell (p := ⟨n, 6, none⟩) l0).trans c0_6, (hb.cell (p := ⟨n, 7, none⟩) l0).trans c0_7, (hb.cell (p := ⟨n, 8, none⟩) l0).trans c0_8, (hb.cell (p := ⟨n, 9, none⟩) l0).trans c0_9, (hb.cell (p := ⟨n, 10, none⟩) l0).trans c0_10, (hb.cell (p := ⟨n, 11, none⟩) l0).trans c0_11, (hb.cell (p := ⟨n, 12, none⟩) l0).trans c0_12, (hb.cell (p := ⟨n, 13, none⟩) l0).trans c0_13, (hb.cell (p := ⟨n, 14, none⟩) l0).trans c0_14, (hb.cell (p := ⟨(n + 1), 0, none⟩) l1).trans c1_0, (hb.cell (p := ⟨(n + 1), 1, none⟩) l1).trans c1_1, (hb.cell (p := ⟨(n + 1), 2, none⟩) l1).trans c1_2, (hb.cell (p := ⟨(n + 1), 3, none⟩) l1).trans c1_3, (hb.cell (p := ⟨(n + 1), 4, none⟩) l1).trans c1_4, Nat.lt_of_lt_of_le l0 hb.size, Nat.lt_of_lt_of_le l1 hb.size, hB.trans (hb.mono hB_le)⟩
theorem tail_nm {p : Pk} {d : Dp} {n : Nat} {w W : World} (h : W.cell? ⟨n, 0, none⟩ = some (.string p.name) ∧ W.cell? ⟨n, 1, none⟩ = some (.int .i64 p.epoch) ∧ W.cell? ⟨n, 2, none⟩ = some (.string p.ver) ∧ W.cell? ⟨n, 3, none⟩ = some (.string p.rel) ∧ W.cell? ⟨n, 4, none⟩ = some (.int .u8 p.arch) ∧ W.cell? ⟨n, 5, none⟩ = some (.string p.vendor) ∧ W.cell? ⟨n, 6, none⟩ = some (.slice p.provA p.prov.length p.provC) ∧ W.cell? ⟨n, 7, none⟩ = some (.slice p.reqA p.req.length p.reqC) ∧ W.cell? ⟨n, 8, none⟩ = some (.slice p.conA p.con.length p.conC) ∧ W.cell? ⟨n, 9, none⟩ = some (.slice p.obsA p.obs.length p.obsC) ∧ W.cell? ⟨n, 10, none⟩ = some (.slice p.rcmA p.rcm.length p.rcmC) ∧ W.cell? ⟨n, 11, none⟩ = some (.slice p.supA p.sup.length p.supC) ∧ W.cell? ⟨n, 12, none⟩ = some (.slice p.sugA p.sug.length p.sugC) ∧ W.cell? ⟨n, 13, none⟩ = some (.slice p.enhA p.enh.length p.enhC) ∧ W.cell? ⟨n, 14, none⟩ = some (.slice p.filesA p.files.length p.filesC) ∧ W.cell? ⟨(n + 1), 0, none⟩ = some (.string (bs d.name)) ∧ W.cell? ⟨(n + 1), 1, none⟩ = some (.int .u8 d.op) ∧ W.cell? ⟨(n + 1), 2, none⟩ = some (.int .i64 d.evr.epoch) ∧ W.cell? ⟨(n + 1), 3, none⟩ = some (.string (bs d.evr.ver)) ∧ W.cell? ⟨(n + 1), 4, none⟩ = some (.string (bs d.evr.rel)) ∧ n < W.heap.size ∧ (n + 1) < W.heap.size ∧ Below n w W) : Below n w W := h.2.2.2.2.2.2.2.2.2.2.2.2.2.2.2.2.2.2.2.2.2.2
theorem new_nm (p : Pk) (d : Dp) (w : World) : let W := ((w.alloc (.cells #[.string p.name, .int .i64 p.epoch, .string p.ver, .string p.rel, .int .u8 p.arch, .string p.vendor, .slice p.provA p.prov.length p.provC, .slice p.reqA p.req.length p.reqC, .slice p.conA p.con.length p.conC, .slice p.obsA p.obs.length p.obsC, .slice p.rcmA p.rcm.length p.rcmC, .slice p.supA p.sup.length p.supC, .slice p.sugA p.sug.length p.sugC, .slice p.enhA p.enh.length p.enhC, .slice p.filesA p.files.length p.filesC] 33)).alloc (.cells #[.string (bs d.name), .int .u8 d.op, .int .i64 d.evr.epoch, .string (bs d.evr.ver), .string (bs d.evr.rel)] 25)); let n := w.heap.size; W.cell? ⟨n, 0, none⟩ = some (.string p.name) ∧ W.cell? ⟨n, 1, none⟩ = some (.int .i64 p.epoch) ∧ W.cell? ⟨n, 2, none⟩ = some (.string p.ver) ∧ W.cell? ⟨n, 3, none⟩ = some (.string p.rel) ∧ W.cell? ⟨n, 4, none⟩ = some (.int .u8 p.arch) ∧ W.cell? ⟨n, 5, none⟩ = some (.string p.vendor) ∧ W.cell? ⟨n, 6, none⟩ = some (.slice p.provA p.prov.length p.provC) ∧ W.cell? ⟨n, 7, none⟩ = some (.slice p.reqA p.req.length p.reqC) ∧ W.cell? ⟨n, 8, none⟩ = some (.slice p.conA p.con.length p.conC) ∧ W.cell? ⟨n, 9, none⟩ = some (.slice p.obsA p.obs.length p.obsC) ∧ W.cell? ⟨n, 10, none⟩ = some (.slice p.rcmA p.rcm.length p.rcmC) ∧ W.cell? ⟨n, 11, none⟩ = some (.slice p.supA p.sup.length p.supC) ∧ W.cell? ⟨n, 12, none⟩ = some (.slice p.sugA p.sug.length p.sugC) ∧ W.cell? ⟨n, 13, none⟩ = some (.slice p.enhA p.enh.length p.enhC) ∧ W.cell? ⟨n, 14, none⟩ = some (.slice p.filesA p.files.length p.filesC) ∧ W.cell? ⟨(n + 1), 0, none⟩ = some (.string (bs d.name)) ∧ W.cell? ⟨(n + 1), 1, none⟩ = some (.int .u8 d.op) ∧ W.cell? ⟨(n + 1), 2, none⟩ = some (.int .i64 d.evr.epoch) ∧ W.cell? ⟨(n + 1), 3, none⟩ = some (.string (bs d.evr.ver)) ∧ W.cell? ⟨(n + 1), 4, none⟩ = some (.string (bs d.evr.rel)) ∧ n < W.heap.size ∧ (n + 1) < W.heap.size ∧ Below n w W := by
  refine ⟨?_, ?_, ?_, ?_, ?_, ?_, ?_, ?_, ?_, ?_, ?_, ?_, ?_, ?_, ?_, ?_, ?_, ?_, ?_, ?_, ?_, ?_, ?_⟩
  all_goals first | exact (World.cell?_alloc_at _ _ _ _ (by simp)).trans rfl | exact (World.cell?_alloc_past _ _ _ (by simp; try omega)).trans ((World.cell?_alloc_at _ _ _ _ (by simp)).trans rfl) | exact (((Below.refl _ _).alloc (by simp; try omega) _).alloc (by simp; try omega) _) | (simp; try omega)
set_option maxRecDepth 100000 in
set_option maxHeartbeats 16000000 in
theorem pknamed_any (p : Pk) (d : Dp) (w : World) (ho : p.evr.ok) (hd : d.evr.ok) (h1 : 0 ≤ d.op ∧ d.op ≤ 255) : Calls Tryd.prog 24 #[p.val, d.val] w fun r w' => r = .returned (.bool (meetsN p.ownD d)) ∧ Below w.heap.size w w' := by
  have OW := Lib.hid (fun W => pkown_any p W)
  have ME := Lib.hid (fun W => meets_any p.ownD d W ho hd ⟨show (0 : Int) ≤ 2 by decide, show (2 : Int) ≤ 255 by decide⟩ h1)
  generalize meetsN p.ownD d = r at *
  unfold Pk.val Pk.ownD Dp.val Pk.evr at *
  dsimp only at OW ME ⊢
  have S0 := new_nm p d w
  dsimp only at S0
  go_enter Tryd.func24, Tryd.ntmps24
  go_wp2_with fail
  generalize ((w.alloc (.cells #[.string p.name, .int .i64 p.epoch, .string p.ver, .string p.rel, .int .u8 p.arch, .string p.vendor, .slice p.provA p.prov.length p.provC, .slice p.reqA p.req.length p.reqC, .slice p.conA p.con.length p.conC, .slice p.obsA p.obs.length p.obsC, .slice p.rcmA p.rcm.length p.rcmC, .slice p.supA p.sup.length p.supC, .slice p.sugA p.sug.length p.sugC, .slice p.enhA p.enh.length p.enhC, .slice p.filesA p.files.length p.filesC] 33)).alloc (.cells #[.string (bs d.name), .int .u8 d.op, .int .i64 d.evr.epoch, .string (bs d.evr.ver), .string (bs d.evr.rel)] 25)) = W at *
  generalize hn : w.heap.size = n at *
  obtain ⟨c0_0, c0_1, c0_2, c0_3, c0_4, c0_5, c0_6, c0_7, c0_8, c0_9, c0_10, c0_11, c0_12, c0_13, c0_14, c1_0, c1_1, c1_2, c1_3, c1_4, l0, l1, hB⟩ := id S0
  go_region_held3 (fun W => W.cell? ⟨n, 0, none⟩ = some (.string p.name) ∧ W.cell? ⟨n, 1, none⟩ = some (.int .i64 p.epoch) ∧ W.cell? ⟨n, 2, none⟩ = some (.string p.ver) ∧ W.cell? ⟨n, 3, none⟩ = some (.string p.rel) ∧ W.cell? ⟨n, 4, none⟩ = some (.int .u8 p.arch) ∧ W.cell? ⟨n, 5, none⟩ = some (.string p.vendor) ∧ W.cell? ⟨n, 6, none⟩ = some (.slice p.provA p.prov.length p.provC) ∧ W.cell? ⟨n, 7, none⟩ = some (.slice p.reqA p.req.length p.reqC) ∧ W.cell? ⟨n, 8, none⟩ = some (.slice p.conA p.con.length p.conC) ∧ W.cell? ⟨n, 9, none⟩ = some (.slice p.obsA p.obs.length p.obsC) ∧ W.cell? ⟨n, 10, none⟩ = some (.slice p.rcmA p.rcm.length p.rcmC) ∧ W.cell? ⟨n, 11, none⟩ = some (.slice p.supA p.sup.length p.supC) ∧ W.cell? ⟨n, 12, none⟩ = some (.slice p.sugA p.sug.length p.sugC) ∧ W.cell? ⟨n, 13, none⟩ = some (.slice p.enhA p.enh.length p.enhC) ∧ W.cell? ⟨n, 14, none⟩ = some (.slice p.filesA p.files.length p.filesC) ∧ W.cell? ⟨(n + 1), 0, none⟩ = some (.string (bs d.name)) ∧ W.cell? ⟨(n + 1), 1, none⟩ = some (.int .u8 d.op) ∧ W.cell? ⟨(n + 1), 2, none⟩ = some (.int .i64 d.evr.epoch) ∧ W.cell? ⟨(n + 1), 3, none⟩ = some (.string (bs d.evr.ver)) ∧ W.cell? ⟨(n + 1), 4, none⟩ = some (.string (bs d.evr.rel)) ∧ n < W.heap.size ∧ (n + 1) < W.heap.size ∧ Below n w W) (first | exact keep_nm (by assumption) hbb | exact ⟨c0_0, c0_1, c0_2, c0_3, c0_4, c0_5, c0_6, c0_7, c0_8, c0_9, c0_10, c0_11, c0_12, c0_13, c0_14, c1_0, c1_1, c1_2, c1_3, c1_4, l0, l1, hB.drew⟩ | go_keep) (first | (go_at_call 46; refine (OW.out _).mono ?_; rintro e w' ⟨rfl, hbb⟩) | (go_at_call 45; refine (ME.out _).mono ?_; rintro e w' ⟨rfl, hbb⟩))
  rename_i hh
  have hB2 := tail_nm hh
  go_wp2
  go_ret
  exact ⟨rfl, by rw [hn]; exact hB2⟩

/- Walks: slices.IndexFunc, ContainsFunc over dependencies, whatever the predicate. -/

/-- the function hands back p of each of these, wherever it is called from w on -/
def PredD (w : World) (g : FuncId) (cap : Array Value) (p : Dp → Bool) (l : List Dp) : Prop := ∀ d ∈ l, ∀ W, Below w.heap.size w W → Calls Tryd.prog g (#[d.val] ++ cap) W fun e w' => e = .returned (.bool (p d)) ∧ Below W.heap.size W w'
set_option maxRecDepth 100000 in
set_option maxHeartbeats 16000000 in
theorem idxdep_any (g : FuncId) (eg : ∀ args w, (callFunc g args).run Tryd.prog w = .ok (.enter g args) w) (cp : Array Value) (p : Dp → Bool) (l : List Dp) (A : Option Addr) (c : Nat) (w : World) (hl : Rd encD 5 w.heap.size A c l w) (hn : l.length ≤ 1000000) (hp : PredD w g cp p l) :
    Calls Tryd.prog 44 #[.slice A l.length c, .func (.func g) #[] cp] w fun e w' => ∃ i : Int, e = .returned (.int .i64 i) ∧ (decide (0 ≤ i) = l.any p) ∧ Below w.heap.size w w' := by
  have HL := Lib.hid hl
  have HP := Lib.hid hp
  obtain ⟨n, hnn⟩ : ∃ n, n = l.length := ⟨_, rfl⟩
  rw [← hnn] at hn ⊢
  have HN := Lib.hid hnn
  clear hl hp hnn
  go_enter Tryd.func44, Tryd.ntmps44
  go_wp2_with fail
  go_loopw [8] (fun i wr => ∃ k : Nat, k ≤ n ∧ i = .int .i64 (k : Int) ∧ Hid (∀ j (hj : j < l.length), j < k → p l[j] = false) ∧ Below w.heap.size w wr) (fun i _ => n - (intOf i).toNat)
  case atStart => exact ⟨0, by omega, rfl, Lib.hid (by intro j hj h; omega), Below.refl _ _⟩
  case round =>
    obtain ⟨k, hk, rfl, hS, hB⟩ := hrel
    rename World => wr
    by_cases hlt : k < n
    · have hkl : k < l.length := by have := HN.out; omega
      obtain ⟨b, o, rfl, hb, c0, c1, c2, c3, c4⟩ := (HL.out.below hB).dep_at hkl
      have CP := Lib.hid (HP.out _ (List.getElem_mem hkl) wr hB)
      have HT := Lib.hid (fun (h : p l[k] = true) => show l.any p = true from List.any_eq_true.2 ⟨_, List.getElem_mem hkl, h⟩)
      have HF := Lib.hid (fun (h : p l[k] = false) => show ∀ j (hj : j < l.length), j < k + 1 → p l[j] = false from fun j hj hjk => by
        by_cases e : j = k
        · subst e; exact h
        · exact hS.out j hj (by omega))
      have i0 : (0 : Int) ≤ (k : Int) := by omega
      have i1 : (k : Int) < (n : Int) := by omega
      generalize l[k] = d at *
      generalize p d = r at *
      unfold Dp.val at CP
      clear hS
      go_wp2_with fail
      go_at_fn g
      refine CP.out.mono ?_
      rintro e w2 ⟨rfl, h⟩
      have hB2 := hB.trans (h.mono hB.size)
      cases r
      · go_wp2_with fail
        go_roundw
        case rel => exact ⟨k + 1, by omega, by go_num, Lib.hid (HF.out (by trivial)), hB2⟩
        case measure => simp [intOf]; omega
      · have HA := Lib.hid (show l.any p = true from HT.out (by trivial))
        go_wp2_with fail
        go_ret
        exact ⟨(k : Int), rfl, by rw [HA.out]; simp, hB2⟩
    · have i1 : ¬ (k : Int) < (n : Int) := by omega
      have HA : l.any p = false := List.any_eq_false.2 fun d hd => by obtain ⟨j, hj, rfl⟩ := List.getElem_of_mem hd; rw [hS.out j hj (by have := HN.out; omega)]; decide
      go_wp2_with fail
      go_ret
      exact ⟨-1, rfl, by decide, hB⟩
set_option maxRecDepth 100000 in
set_option maxHeartbeats 16000000 in
theorem hasdep_any (g : FuncId) (eg : ∀ args w, (callFunc g args).run Tryd.prog w = .ok (.enter g args) w) (cp : Array Value) (p : Dp → Bool) (l : List Dp) (A : Option Addr) (c : Nat) (w : World) (hl : Rd encD 5 w.heap.size A c l w) (hn : l.length ≤ 1000000) (hp : PredD w g cp p l) :
    Calls Tryd.prog 22 #[.slice A l.length c, .func (.func g) #[] cp] w fun e w' => e = .returned (.bool (l.any p)) ∧ Below w.heap.size w w' := by
  have ID := Lib.hid (idxdep_any g eg cp p l A c w hl hn hp)
  clear hl hp
  generalize l.any p = r at *
  generalize l.length = n at *
  go_enter Tryd.func22, Tryd.ntmps22
  go_wp2_with fail
  go_at_call 44
  refine ID.out.mono ?_
  rintro e w2 ⟨i, rfl, hi, h⟩
  have HI := Lib.hid hi
  clear hi
  go_wp2
  go_ret
  exact ⟨ret_bool HI.out, h⟩

/- Walks: whether a package obsoletes another one, and provides a dependency. -/

/-- a package's box -/
def PkAt (W : World) (b : Nat) (p : Pk) : Prop := b < W.heap.size ∧ W.cell? ⟨b, 0, none⟩ = some (.string p.name) ∧ W.cell? ⟨b, 1, none⟩ = some (.int .i64 p.epoch) ∧ W.cell? ⟨b, 2, none⟩ = some (.string p.ver) ∧ W.cell? ⟨b, 3, none⟩ = some (.string p.rel) ∧ W.cell? ⟨b, 4, none⟩ = some (.int .u8 p.arch) ∧ W.cell? ⟨b, 5, none⟩ = some (.string p.vendor) ∧ W.cell? ⟨b, 6, none⟩ = some (.slice p.provA p.prov.length p.provC) ∧ W.cell? ⟨b, 7, none⟩ = some (.slice p.reqA p.req.length p.reqC) ∧ W.cell? ⟨b, 8, none⟩ = some (.slice p.conA p.con.length p.conC) ∧ W.cell? ⟨b, 9, none⟩ = some (.slice p.obsA p.obs.length p.obsC) ∧ W.cell? ⟨b, 10, none⟩ = some (.slice p.rcmA p.rcm.length p.rcmC) ∧ W.cell? ⟨b, 11, none⟩ = some (.slice p.supA p.sup.length p.supC) ∧ W.cell? ⟨b, 12, none⟩ = some (.slice p.sugA p.sug.length p.sugC) ∧ W.cell? ⟨b, 13, none⟩ = some (.slice p.enhA p.enh.length p.enhC) ∧ W.cell? ⟨b, 14, none⟩ = some (.slice p.filesA p.files.length p.filesC)
theorem PkAt.calls {W W' : World} {b : Nat} {p : Pk} (h : PkAt W b p) (hb : Below W.heap.size W W') : PkAt W' b p := by
  obtain ⟨hl, c0, c1, c2, c3, c4, c5, c6, c7, c8, c9, c10, c11, c12, c13, c14⟩ := h
  exact ⟨Nat.lt_of_lt_of_le hl hb.size, (hb.cell (p := ⟨b, 0, none⟩) hl).trans c0, (hb.cell (p := ⟨b, 1, none⟩) hl).trans c1, (hb.cell (p := ⟨b, 2, none⟩) hl).trans c2, (hb.cell (p := ⟨b, 3, none⟩) hl).trans c3, (hb.cell (p := ⟨b, 4, none⟩) hl).trans c4, (hb.cell (p := ⟨b, 5, none⟩) hl).trans c5, (hb.cell (p := ⟨b, 6, none⟩) hl).trans c6, (hb.cell (p := ⟨b, 7, none⟩) hl).trans c7, (hb.cell (p := ⟨b, 8, none⟩) hl).trans c8, (hb.cell (p := ⟨b, 9, none⟩) hl).trans c9, (hb.cell (p := ⟨b, 10, none⟩) hl).trans c10, (hb.cell (p := ⟨b, 11, none⟩) hl).trans c11, (hb.cell (p := ⟨b, 12, none⟩) hl).trans c12, (hb.cell (p := ⟨b, 13, none⟩) hl).trans c13, (hb.cell (p := ⟨b, 14, none⟩) hl).trans c14⟩
theorem PkAt.new (W : World) (p : Pk) : PkAt (W.alloc (.cells #[.string p.name, .int .i64 p.epoch, .string p.ver, .string p.rel, .int .u8 p.arch, .string p.vendor, .slice p.provA p.prov.length p.provC, .slice p.reqA p.req.length p.reqC, .slice p.conA p.con.length p.conC, .slice p.obsA p.obs.length p.obsC, .slice p.rcmA p.rcm.length p.rcmC, .slice p.supA p.sup.length p.supC, .slice p.sugA p.sug.length p.sugC, .slice p.enhA p.enh.length p.enhC, .slice p.filesA p.files.length p.filesC] 33)) W.heap.size p :=
  ⟨by simp, (World.cell?_alloc_at _ _ _ _ rfl).trans rfl, (World.cell?_alloc_at _ _ _ _ rfl).trans rfl, (World.cell?_alloc_at _ _ _ _ rfl).trans rfl, (World.cell?_alloc_at _ _ _ _ rfl).trans rfl, (World.cell?_alloc_at _ _ _ _ rfl).trans rfl, (World.cell?_alloc_at _ _ _ _ rfl).trans rfl, (World.cell?_alloc_at _ _ _ _ rfl).trans rfl, (World.cell?_alloc_at _ _ _ _ rfl).trans rfl, (World.cell?_alloc_at _ _ _ _ rfl).trans rfl, (World.cell?_alloc_at _ _ _ _ rfl).trans rfl, (World.cell?_alloc_at _ _ _ _ rfl).trans rfl, (World.cell?_alloc_at _ _ _ _ rfl).trans rfl, (World.cell?_alloc_at _ _ _ _ rfl).trans rfl, (World.cell?_alloc_at _ _ _ _ rfl).trans rfl, (World.cell?_alloc_at _ _ _ _ rfl).trans rfl⟩
def DpAt (W : World) (b : Nat) (d : Dp) : Prop := b < W.heap.size ∧ W.cell? ⟨b, 0, none⟩ = some (.string (bs d.name)) ∧ W.cell? ⟨b, 1, none⟩ = some (.int .u8 d.op) ∧ W.cell? ⟨b, 2, none⟩ = some (.int .i64 d.evr.epoch) ∧ W.cell? ⟨b, 3, none⟩ = some (.string (bs d.evr.ver)) ∧ W.cell? ⟨b, 4, none⟩ = some (.string (bs d.evr.rel))
theorem DpAt.calls {W W' : World} {b : Nat} {d : Dp} (h : DpAt W b d) (hb : Below W.heap.size W W') : DpAt W' b d := by
  obtain ⟨hl, c0, c1, c2, c3, c4⟩ := h
  exact ⟨Nat.lt_of_lt_of_le hl hb.size, (hb.cell (p := ⟨b, 0, none⟩) hl).trans c0, (hb.cell (p := ⟨b, 1, none⟩) hl).trans c1, (hb.cell (p := ⟨b, 2, none⟩) hl).trans c2, (hb.cell (p := ⟨b, 3, none⟩) hl).trans c3, (hb.cell (p := ⟨b, 4, none⟩) hl).trans c4⟩
theorem DpAt.new (W : World) (d : Dp) : DpAt (W.alloc (.cells #[.string (bs d.name), .int .u8 d.op, .int .i64 d.evr.epoch, .string (bs d.evr.ver), .string (bs d.evr.rel)] 25)) W.heap.size d :=
  ⟨by simp, (World.cell?_alloc_at _ _ _ _ rfl).trans rfl, (World.cell?_alloc_at _ _ _ _ rfl).trans rfl, (World.cell?_alloc_at _ _ _ _ rfl).trans rfl, (World.cell?_alloc_at _ _ _ _ rfl).trans rfl, (World.cell?_alloc_at _ _ _ _ rfl).trans rfl⟩
theorem small_ok {d : Dp} (h : d.small) : d.evr.ok := ⟨by have := h.2.1; omega, by have := h.2.2; omega⟩
set_option maxRecDepth 100000 in
set_option maxHeartbeats 16000000 in
theorem obs1_any (q : Pk) (d : Dp) (b : Nat) (W : World) (hq : PkAt W b q) (ho : q.evr.ok) (hd : d.evr.ok) (h1 : 0 ≤ d.op ∧ d.op ≤ 255) : Calls Tryd.prog 23 #[d.val, .pointer (some ⟨b, 0, none⟩)] W fun r w' => r = .returned (.bool (meetsN q.ownD d)) ∧ Below W.heap.size W w' := by
  have NA := Lib.hid (fun W => pknamed_any q d W ho hd h1)
  generalize meetsN q.ownD d = r at *
  unfold Pk.val Dp.val at *
  obtain ⟨hl, c0, c1, c2, c3, c4, c5, c6, c7, c8, c9, c10, c11, c12, c13, c14⟩ := (hq.calls ((Below.refl _ W).alloc (Nat.le_refl _) (.cells #[.string (bs d.name), .int .u8 d.op, .int .i64 d.evr.epoch, .string (bs d.evr.ver), .string (bs d.evr.rel)] 25)))
  clear hq
  go_enter Tryd.func23, Tryd.ntmps23
  go_wp2_with fail
  go_at_call 24
  refine (NA.out _).mono ?_
  rintro e w2 ⟨rfl, h⟩
  have hB := ((Below.refl W.heap.size W).alloc (Nat.le_refl _) (.cells #[.string (bs d.name), .int .u8 d.op, .int .i64 d.evr.epoch, .string (bs d.evr.ver), .string (bs d.evr.rel)] 25)).trans (h.mono (by simp))
  go_wp2
  go_ret
  exact ⟨rfl, hB⟩
set_option maxRecDepth 100000 in
set_option maxHeartbeats 16000000 in
theorem pkobs_any (p q : Pk) (w : World) (hL : p.Laid w.heap.size w) (sm : p.small) (ho : q.evr.ok) : Calls Tryd.prog 8 #[p.val, q.val] w fun r w' => r = .returned (.bool (p.obs.any fun d => meetsN q.ownD d)) ∧ Below w.heap.size w w' := by
  have b1 := (Below.refl w.heap.size w).alloc (Nat.le_refl _) (.cells #[.string p.name, .int .i64 p.epoch, .string p.ver, .string p.rel, .int .u8 p.arch, .string p.vendor, .slice p.provA p.prov.length p.provC, .slice p.reqA p.req.length p.reqC, .slice p.conA p.con.length p.conC, .slice p.obsA p.obs.length p.obsC, .slice p.rcmA p.rcm.length p.rcmC, .slice p.supA p.sup.length p.supC, .slice p.sugA p.sug.length p.sugC, .slice p.enhA p.enh.length p.enhC, .slice p.filesA p.files.length p.filesC] 33)
  have b2 := b1.alloc (by simp) (.cells #[.string q.name, .int .i64 q.epoch, .string q.ver, .string q.rel, .int .u8 q.arch, .string q.vendor, .slice q.provA q.prov.length q.provC, .slice q.reqA q.req.length q.reqC, .slice q.conA q.con.length q.conC, .slice q.obsA q.obs.length q.obsC, .slice q.rcmA q.rcm.length q.rcmC, .slice q.supA q.sup.length q.supC, .slice q.sugA q.sug.length q.sugC, .slice q.enhA q.enh.length q.enhC, .slice q.filesA q.files.length q.filesC] 33)
  have hQ := PkAt.new (w.alloc (.cells #[.string p.name, .int .i64 p.epoch, .string p.ver, .string p.rel, .int .u8 p.arch, .string p.vendor, .slice p.provA p.prov.length p.provC, .slice p.reqA p.req.length p.reqC, .slice p.conA p.con.length p.conC, .slice p.obsA p.obs.length p.obsC, .slice p.rcmA p.rcm.length p.rcmC, .slice p.supA p.sup.length p.supC, .slice p.sugA p.sug.length p.sugC, .slice p.enhA p.enh.length p.enhC, .slice p.filesA p.files.length p.filesC] 33)) q
  have hs : (w.alloc (.cells #[.string p.name, .int .i64 p.epoch, .string p.ver, .string p.rel, .int .u8 p.arch, .string p.vendor, .slice p.provA p.prov.length p.provC, .slice p.reqA p.req.length p.reqC, .slice p.conA p.con.length p.conC, .slice p.obsA p.obs.length p.obsC, .slice p.rcmA p.rcm.length p.rcmC, .slice p.supA p.sup.length p.supC, .slice p.sugA p.sug.length p.sugC, .slice p.enhA p.enh.length p.enhC, .slice p.filesA p.files.length p.filesC] 33)).heap.size = w.heap.size + 1 := by simp
  rw [hs] at hQ
  have HC := Lib.hid (hasdep_any 23 (fun _ _ => rfl) #[.pointer (some ⟨w.heap.size + 1, 0, none⟩)] (fun d => meetsN q.ownD d) p.obs p.obsA p.obsC _ ((hL.obs.below b2).more b2.size) (by have := sm.obsN; omega) (fun d hd W hB => obs1_any q d _ W (hQ.calls hB) ho (small_ok (sm.obs d hd)) (u8_wf (hL.obsW d hd).2.1)))
  generalize (p.obs.any fun d => meetsN q.ownD d) = r at *
  clear hL sm ho hQ hs
  unfold Pk.val
  go_enter Tryd.func8, Tryd.ntmps8
  go_wp2_with fail
  go_at_call 22
  refine HC.out.mono ?_
  rintro e w2 ⟨rfl, h⟩
  have hB := b2.trans (h.mono b2.size)
  go_wp2
  go_ret
  exact ⟨rfl, hB⟩

/- Walks: slices.IndexFunc, ContainsFunc, Index, Contains over texts; ContainsFunc over no rich dependency. -/

def PredS (w : World) (g : FuncId) (cap : Array Value) (p : ByteArray → Bool) (l : List ByteArray) : Prop := ∀ s ∈ l, ∀ W, Below w.heap.size w W → Calls Tryd.prog g (#[.string s] ++ cap) W fun e w' => e = .returned (.bool (p s)) ∧ Below W.heap.size W w'
set_option maxRecDepth 100000 in
set_option maxHeartbeats 16000000 in
theorem idxstrf_any (g : FuncId) (eg : ∀ args w, (callFunc g args).run Tryd.prog w = .ok (.enter g args) w) (cp : Array Value) (p : ByteArray → Bool) (l : List ByteArray) (A : Option Addr) (c : Nat) (w : World) (hl : Rd (fun s => [Value.string s]) 1 w.heap.size A c l w) (hn : l.length ≤ 1000000) (hp : PredS w g cp p l) :
    Calls Tryd.prog 52 #[.slice A l.length c, .func (.func g) #[] cp] w fun e w' => ∃ i : Int, e = .returned (.int .i64 i) ∧ (decide (0 ≤ i) = l.any (p)) ∧ Below w.heap.size w w' := by
  have HL := Lib.hid hl
  have HP := Lib.hid hp
  clear hp
  obtain ⟨n, hnn⟩ : ∃ n, n = l.length := ⟨_, rfl⟩
  rw [← hnn] at hn ⊢
  have HN := Lib.hid hnn
  clear hl hnn
  go_enter Tryd.func52, Tryd.ntmps52
  go_wp2_with fail
  go_loopw [8] (fun i wr => ∃ k : Nat, k ≤ n ∧ i = .int .i64 (k : Int) ∧ Hid (∀ j (hj : j < l.length), j < k → (p) l[j] = false) ∧ Below w.heap.size w wr) (fun i _ => n - (intOf i).toNat)
  case atStart => exact ⟨0, by omega, rfl, Lib.hid (by intro j hj h; omega), Below.refl _ _⟩
  case round =>
    obtain ⟨k, hk, rfl, hS, hB⟩ := hrel
    rename World => wr
    by_cases hlt : k < n
    · have hkl : k < l.length := by have := HN.out; omega
      obtain ⟨b, o, rfl, hb, c0⟩ := (HL.out.below hB).at1 (f := fun s => Value.string s) (fun _ => rfl) hkl
      have CP := Lib.hid (HP.out _ (List.getElem_mem hkl) wr hB)
      have HT := Lib.hid (fun (h : (p) l[k] = true) => show l.any (p) = true from List.any_eq_true.2 ⟨_, List.getElem_mem hkl, h⟩)
      have HF := Lib.hid (fun (h : (p) l[k] = false) => show ∀ j (hj : j < l.length), j < k + 1 → (p) l[j] = false from fun j hj hjk => by
        by_cases e : j = k
        · subst e; exact h
        · exact hS.out j hj (by omega))
      have i0 : (0 : Int) ≤ (k : Int) := by omega
      have i1 : (k : Int) < (n : Int) := by omega
      generalize l[k] = d at *
      generalize p d = r at *
      clear hS
      go_wp2_with fail
      go_at_fn g
      refine CP.out.mono ?_
      rintro e w2 ⟨rfl, h⟩
      have hB2 := hB.trans (h.mono hB.size)
      cases r
      · have HF2 := Lib.hid (HF.out (by trivial))
        go_wp2_with fail
        go_roundw
        case rel => exact ⟨k + 1, by omega, by go_num, HF2, hB2⟩
        case measure => simp [intOf]; omega
      · have HA := Lib.hid (show l.any p = true from HT.out (by trivial))
        go_wp2_with fail
        go_ret
        exact ⟨(k : Int), rfl, by rw [HA.out]; simp, hB2⟩
    · have i1 : ¬ (k : Int) < (n : Int) := by omega
      have HA := Lib.hid (show l.any (p) = false from List.any_eq_false.2 fun d hd => by obtain ⟨j, hj, rfl⟩ := List.getElem_of_mem hd; exact fun e => Bool.false_ne_true ((hS.out j hj (by have := HN.out; omega)).symm.trans e))
      go_wp2_with fail
      go_ret
      exact ⟨-1, rfl, by rw [HA.out]; decide, hB⟩
set_option maxRecDepth 100000 in
set_option maxHeartbeats 16000000 in
theorem idxstr_any (x : ByteArray) (l : List ByteArray) (A : Option Addr) (c : Nat) (w : World) (hl : Rd (fun s => [Value.string s]) 1 w.heap.size A c l w) (hn : l.length ≤ 1000000) :
    Calls Tryd.prog 58 #[.slice A l.length c, .string x] w fun e w' => ∃ i : Int, e = .returned (.int .i64 i) ∧ (decide (0 ≤ i) = l.any (fun s => x.toList == s.toList)) ∧ Below w.heap.size w w' := by
  have HL := Lib.hid hl
  obtain ⟨n, hnn⟩ : ∃ n, n = l.length := ⟨_, rfl⟩
  rw [← hnn] at hn ⊢
  have HN := Lib.hid hnn
  clear hl hnn
  go_enter Tryd.func58, Tryd.ntmps58
  go_wp2_with fail
  go_loopw [8] (fun i wr => ∃ k : Nat, k ≤ n ∧ i = .int .i64 (k : Int) ∧ Hid (∀ j (hj : j < l.length), j < k → (fun s => x.toList == s.toList) l[j] = false) ∧ Below w.heap.size w wr) (fun i _ => n - (intOf i).toNat)
  case atStart => exact ⟨0, by omega, rfl, Lib.hid (by intro j hj h; omega), Below.refl _ _⟩
  case round =>
    obtain ⟨k, hk, rfl, hS, hB⟩ := hrel
    rename World => wr
    by_cases hlt : k < n
    · have hkl : k < l.length := by have := HN.out; omega
      obtain ⟨b, o, rfl, hb, c0⟩ := (HL.out.below hB).at1 (f := fun s => Value.string s) (fun _ => rfl) hkl
      have HT := Lib.hid (fun (h : (fun s => x.toList == s.toList) l[k] = true) => show l.any (fun s => x.toList == s.toList) = true from List.any_eq_true.2 ⟨_, List.getElem_mem hkl, h⟩)
      have HF := Lib.hid (fun (h : (fun s => x.toList == s.toList) l[k] = false) => show ∀ j (hj : j < l.length), j < k + 1 → (fun s => x.toList == s.toList) l[j] = false from fun j hj hjk => by
        by_cases e : j = k
        · subst e; exact h
        · exact hS.out j hj (by omega))
      have i0 : (0 : Int) ≤ (k : Int) := by omega
      have i1 : (k : Int) < (n : Int) := by omega
      generalize l[k] = d at *
      clear hS
      cases hr : (x.toList == d.toList)
      · have HF2 := Lib.hid (HF.out hr)
        have hr' : ¬ x.toList = d.toList := beq_eq_false_iff_ne.1 hr
        go_wp2_with fail
        go_roundw
        case rel => exact ⟨k + 1, by omega, by go_num, HF2, hB⟩
        case measure => simp [intOf]; omega
      · have HA := Lib.hid (HT.out hr)
        obtain rfl : x = d := toList_inj (beq_iff_eq.1 hr)
        go_wp2_with fail
        go_ret
        exact ⟨(k : Int), rfl, by rw [HA.out]; simp, hB⟩
    · have i1 : ¬ (k : Int) < (n : Int) := by omega
      have HA := Lib.hid (show l.any (fun s => x.toList == s.toList) = false from List.any_eq_false.2 fun d hd => by obtain ⟨j, hj, rfl⟩ := List.getElem_of_mem hd; exact fun e => Bool.false_ne_true ((hS.out j hj (by have := HN.out; omega)).symm.trans e))
      go_wp2_with fail
      go_ret
      exact ⟨-1, rfl, by rw [HA.out]; decide, hB⟩
set_option maxRecDepth 100000 in
set_option maxHeartbeats 16000000 in
theorem hasstrf_any (g : FuncId) (eg : ∀ args w, (callFunc g args).run Tryd.prog w = .ok (.enter g args) w) (cp : Array Value) (p : ByteArray → Bool) (l : List ByteArray) (A : Option Addr) (c : Nat) (w : World) (hl : Rd (fun s => [Value.string s]) 1 w.heap.size A c l w) (hn : l.length ≤ 1000000) (hp : PredS w g cp p l) :
    Calls Tryd.prog 34 #[.slice A l.length c, .func (.func g) #[] cp] w fun e w' => e = .returned (.bool (l.any (p))) ∧ Below w.heap.size w w' := by
  have ID := Lib.hid (idxstrf_any g eg cp p l A c w hl hn hp)
  clear hl
  generalize l.any (p) = r at *
  generalize l.length = n at *
  go_enter Tryd.func34, Tryd.ntmps34
  go_wp2_with fail
  go_at_call 52
  refine ID.out.mono ?_
  rintro e w2 ⟨i, rfl, hi, h⟩
  have HI := Lib.hid hi
  clear hi
  go_wp2
  go_ret
  exact ⟨ret_bool HI.out, h⟩
set_option maxRecDepth 100000 in
set_option maxHeartbeats 16000000 in
theorem hasstr_any (x : ByteArray) (l : List ByteArray) (A : Option Addr) (c : Nat) (w : World) (hl : Rd (fun s => [Value.string s]) 1 w.heap.size A c l w) (hn : l.length ≤ 1000000) :
    Calls Tryd.prog 48 #[.slice A l.length c, .string x] w fun e w' => e = .returned (.bool (l.any (fun s => x.toList == s.toList))) ∧ Below w.heap.size w w' := by
  have ID := Lib.hid (idxstr_any x l A c w hl hn)
  clear hl
  generalize l.any (fun s => x.toList == s.toList) = r at *
  generalize l.length = n at *
  go_enter Tryd.func48, Tryd.ntmps48
  go_wp2_with fail
  go_at_call 58
  refine ID.out.mono ?_
  rintro e w2 ⟨i, rfl, hi, h⟩
  have HI := Lib.hid hi
  clear hi
  go_wp2
  go_ret
  exact ⟨ret_bool HI.out, h⟩
set_option maxRecDepth 100000 in
set_option maxHeartbeats 16000000 in
theorem idxrich_nil (F : Value) (A : Option Addr) (c : Nat) (w : World) : Calls Tryd.prog 53 #[.slice A 0 c, F] w fun e w' => e = .returned (.int .i64 (-1)) ∧ Below w.heap.size w w' := by
  go_enter Tryd.func53, Tryd.ntmps53
  go_wp2_with fail
  refine wp_loop_rounds 1 ?_
  rw [rounds_succ]
  go_wp2_with fail
  go_ret
  exact ⟨rfl, Below.refl _ _⟩
set_option maxRecDepth 100000 in
set_option maxHeartbeats 16000000 in
theorem hasrich_nil (F : Value) (A : Option Addr) (c : Nat) (w : World) : Calls Tryd.prog 37 #[.slice A 0 c, F] w fun e w' => e = .returned (.bool false) ∧ Below w.heap.size w w' := by
  go_enter Tryd.func37, Tryd.ntmps37
  go_wp2_with fail
  go_at_call 53
  refine (idxrich_nil F A c _).mono ?_
  rintro e w2 ⟨rfl, h⟩
  go_wp2
  go_ret
  exact ⟨rfl, h⟩

/- Walks: whether a package provides a dependency. -/

def provB (p : Pk) (d : Dp) : Bool := meetsN p.ownD d || (p.prov.any (fun a => meetsN a d) || (d.op == 0 && p.files.any fun s => (bs d.name).toList == s.toList))
set_option maxRecDepth 100000 in
set_option maxHeartbeats 16000000 in
theorem prov1_any (a d : Dp) (b : Nat) (W : World) (hq : DpAt W b d) (ha : a.evr.ok) (hd : d.evr.ok) (h0 : 0 ≤ a.op ∧ a.op ≤ 255) (h1 : 0 ≤ d.op ∧ d.op ≤ 255) : Calls Tryd.prog 47 #[a.val, .pointer (some ⟨b, 0, none⟩)] W fun r w' => r = .returned (.bool (meetsN a d)) ∧ Below W.heap.size W w' := by
  have ME := Lib.hid (fun W => meets_any a d W ha hd h0 h1)
  generalize meetsN a d = r at *
  unfold Dp.val at *
  obtain ⟨hl, d0, d1, d2, d3, d4⟩ := (hq.calls ((Below.refl _ W).alloc (Nat.le_refl _) (.cells #[.string (bs a.name), .int .u8 a.op, .int .i64 a.evr.epoch, .string (bs a.evr.ver), .string (bs a.evr.rel)] 25)))
  clear hq
  go_enter Tryd.func47, Tryd.ntmps47
  go_wp2_with fail
  go_at_call 45
  refine (ME.out _).mono ?_
  rintro e w2 ⟨rfl, h⟩
  have hB := ((Below.refl W.heap.size W).alloc (Nat.le_refl _) (.cells #[.string (bs a.name), .int .u8 a.op, .int .i64 a.evr.epoch, .string (bs a.evr.ver), .string (bs a.evr.rel)] 25)).trans (h.mono (by simp))
  go_wp2
  go_ret
  exact ⟨rfl, hB⟩
set_option maxRecDepth 100000 in
set_option maxHeartbeats 16000000 in
theorem pkprov_any (p : Pk) (d : Dp) (w : World) (hL : p.Laid w.heap.size w) (sm : p.small) (ho : p.evr.ok) (hd : d.evr.ok) (h1 : 0 ≤ d.op ∧ d.op ≤ 255) : Calls Tryd.prog 26 #[p.val, d.val] w fun r w' => r = .returned (.bool (provB p d)) ∧ Below w.heap.size w w' := by
  have b1 := (Below.refl w.heap.size w).alloc (Nat.le_refl _) (.cells #[.string p.name, .int .i64 p.epoch, .string p.ver, .string p.rel, .int .u8 p.arch, .string p.vendor, .slice p.provA p.prov.length p.provC, .slice p.reqA p.req.length p.reqC, .slice p.conA p.con.length p.conC, .slice p.obsA p.obs.length p.obsC, .slice p.rcmA p.rcm.length p.rcmC, .slice p.supA p.sup.length p.supC, .slice p.sugA p.sug.length p.sugC, .slice p.enhA p.enh.length p.enhC, .slice p.filesA p.files.length p.filesC] 33)
  have b2 := b1.alloc (by simp) (.cells #[.string (bs d.name), .int .u8 d.op, .int .i64 d.evr.epoch, .string (bs d.evr.ver), .string (bs d.evr.rel)] 25)
  have hs : (w.alloc (.cells #[.string p.name, .int .i64 p.epoch, .string p.ver, .string p.rel, .int .u8 p.arch, .string p.vendor, .slice p.provA p.prov.length p.provC, .slice p.reqA p.req.length p.reqC, .slice p.conA p.con.length p.conC, .slice p.obsA p.obs.length p.obsC, .slice p.rcmA p.rcm.length p.rcmC, .slice p.supA p.sup.length p.supC, .slice p.sugA p.sug.length p.sugC, .slice p.enhA p.enh.length p.enhC, .slice p.filesA p.files.length p.filesC] 33)).heap.size = w.heap.size + 1 := by simp
  have hP := (PkAt.new w p).calls ((Below.refl _ _).alloc (Nat.le_refl _) (.cells #[.string (bs d.name), .int .u8 d.op, .int .i64 d.evr.epoch, .string (bs d.evr.ver), .string (bs d.evr.rel)] 25))
  have hD := DpAt.new (w.alloc (.cells #[.string p.name, .int .i64 p.epoch, .string p.ver, .string p.rel, .int .u8 p.arch, .string p.vendor, .slice p.provA p.prov.length p.provC, .slice p.reqA p.req.length p.reqC, .slice p.conA p.con.length p.conC, .slice p.obsA p.obs.length p.obsC, .slice p.rcmA p.rcm.length p.rcmC, .slice p.supA p.sup.length p.supC, .slice p.sugA p.sug.length p.sugC, .slice p.enhA p.enh.length p.enhC, .slice p.filesA p.files.length p.filesC] 33)) d
  rw [hs] at hD
  clear hs
  have NA := Lib.hid (fun W => pknamed_any p d W ho hd h1)
  have HC := Lib.hid (fun W (hB : Below w.heap.size w W) (hDW : DpAt W (w.heap.size + 1) d) => hasdep_any 47 (fun _ _ => rfl) #[.pointer (some ⟨w.heap.size + 1, 0, none⟩)] (fun a => meetsN a d) p.prov p.provA p.provC W ((hL.prov.below hB).more hB.size) (by have := sm.provN; omega) (fun a ha W' hB' => prov1_any a d _ W' (hDW.calls hB') (small_ok (sm.prov a ha)) hd (u8_wf (hL.provW a ha).2.1) h1))
  have HF := Lib.hid (fun W (hB : Below w.heap.size w W) => hasstr_any (bs d.name) p.files p.filesA p.filesC W ((hL.files.below hB).more hB.size) (by have := sm.filesN; omega))
  obtain ⟨res, hres⟩ : ∃ res, res = provB p d := ⟨_, rfl⟩
  rw [← hres]
  unfold provB at hres
  have HR := Lib.hid hres
  clear hres
  generalize meetsN p.ownD d = r1 at *
  generalize (p.prov.any fun a => meetsN a d) = r2 at *
  generalize (p.files.any fun s => (bs d.name).toList == s.toList) = r3 at *
  clear hL sm ho hd b1
  unfold Pk.val Dp.val at *
  have hP0 := Lib.hid hP
  have hD0 := Lib.hid hD
  obtain ⟨_, c0, c1, c2, c3, c4, c5, c6, c7, c8, c9, c10, c11, c12, c13, c14⟩ := hP
  obtain ⟨_, d0, d1, d2, d3, d4⟩ := hD
  go_enter Tryd.func26, Tryd.ntmps26
  go_wp2_with fail
  go_at_call 24
  generalize hV : (w.alloc (.cells #[.string p.name, .int .i64 p.epoch, .string p.ver, .string p.rel, .int .u8 p.arch, .string p.vendor, .slice p.provA p.prov.length p.provC, .slice p.reqA p.req.length p.reqC, .slice p.conA p.con.length p.conC, .slice p.obsA p.obs.length p.obsC, .slice p.rcmA p.rcm.length p.rcmC, .slice p.supA p.sup.length p.supC, .slice p.sugA p.sug.length p.sugC, .slice p.enhA p.enh.length p.enhC, .slice p.filesA p.files.length p.filesC] 33)).alloc (.cells #[.string (bs d.name), .int .u8 d.op, .int .i64 d.evr.epoch, .string (bs d.evr.ver), .string (bs d.evr.rel)] 25) = V at *
  refine (NA.out _).mono ?_
  rintro e w2 ⟨rfl, h⟩
  have hB := b2.trans (h.mono b2.size)
  have hP := Lib.hid (hP0.out.calls h)
  have hD := Lib.hid (hD0.out.calls h)
  clear h NA hP0 hD0 c0 c1 c2 c3 c4 c5 c6 c7 c8 c9 c10 c11 c12 c13 c14 d0 d1 d2 d3 d4 hV b2
  cases r1
  · obtain ⟨_, c0, c1, c2, c3, c4, c5, c6, c7, c8, c9, c10, c11, c12, c13, c14⟩ := hP.out
    go_wp2_with fail
    go_at_call 22
    refine (HC.out _ hB hD.out).mono ?_
    rintro e w3 ⟨rfl, h⟩
    have hB3 := hB.trans (h.mono hB.size)
    have hP3 := Lib.hid (hP.out.calls h)
    have hD3 := Lib.hid (hD.out.calls h)
    clear h HC hP hD hB c0 c1 c2 c3 c4 c5 c6 c7 c8 c9 c10 c11 c12 c13 c14
    cases r2
    · obtain ⟨_, c0, c1, c2, c3, c4, c5, c6, c7, c8, c9, c10, c11, c12, c13, c14⟩ := hP3.out
      obtain ⟨_, d0, d1, d2, d3, d4⟩ := hD3.out
      by_cases h0 : d.op = 0
      · have e0 : (d.op == 0) = true := beq_iff_eq.2 h0
        go_wp2_with fail
        go_at_call 48
        refine (HF.out _ hB3).mono ?_
        rintro e w4 ⟨rfl, h⟩
        have hB4 := hB3.trans (h.mono hB3.size)
        go_wp2
        go_ret
        exact ⟨by rw [HR.out, e0]; simp, hB4⟩
      · have e0 : (d.op == 0) = false := beq_eq_false_iff_ne.2 h0
        go_wp2
        go_ret
        exact ⟨by rw [HR.out, e0]; simp, hB3⟩
    · go_wp2
      go_ret
      exact ⟨by rw [HR.out]; simp, hB3⟩
  · go_wp2
    go_ret
    exact ⟨by rw [HR.out]; simp, hB⟩

/- Walks: whether something holds for all of a list that is no longer than that (pkg.every); pkg.lists. -/

def mayF : Value := .func (.func 15) #[] #[]
def fileF : Value := .func (.func 11) #[] #[]
theorem box_new (W : World) (v : Value) (t : TypeId) : W.heap.size < (W.alloc (.cells #[v] t)).heap.size ∧ (W.alloc (.cells #[v] t)).cell? ⟨W.heap.size, 0, none⟩ = some v := ⟨by simp, (World.cell?_alloc_at _ _ _ _ rfl).trans rfl⟩
theorem box_calls {W W' : World} {b : Nat} {v : Value} (h : b < W.heap.size ∧ W.cell? ⟨b, 0, none⟩ = some v) (hb : Below W.heap.size W W') : b < W'.heap.size ∧ W'.cell? ⟨b, 0, none⟩ = some v := ⟨Nat.lt_of_lt_of_le h.1 hb.size, (hb.cell (p := ⟨b, 0, none⟩) h.1).trans h.2⟩
set_option maxRecDepth 100000 in
set_option maxHeartbeats 16000000 in
theorem ev1dep_any (d : Dp) (b : Nat) (W : World) (hI : PkIn W) (hw : d.wf) (hb : b < W.heap.size ∧ W.cell? ⟨b, 0, none⟩ = some mayF) : Calls Tryd.prog 32 #[d.val, .pointer (some ⟨b, 0, none⟩)] W fun r w' => r = .returned (.bool (!dmayB d)) ∧ Below W.heap.size W w' := by
  have MY := Lib.hid (fun X (h : Below W.heap.size W X) => dmay_pk d X hw (hI.below h))
  generalize dmayB d = r at *
  have b1 := (Below.refl W.heap.size W).alloc (Nat.le_refl _) (.cells #[.string (bs d.name), .int .u8 d.op, .int .i64 d.evr.epoch, .string (bs d.evr.ver), .string (bs d.evr.rel)] 25)
  obtain ⟨_, c0⟩ := box_calls hb b1
  unfold mayF at c0
  unfold Dp.val at *
  clear hI hb hw
  go_enter Tryd.func32, Tryd.ntmps32
  go_wp2_with fail
  go_at_call 15
  refine (MY.out _ b1).mono ?_
  rintro e w2 ⟨rfl, h⟩
  have hB := b1.trans (h.mono (by simp))
  cases r
  all_goals
    go_wp2
    go_ret
    exact ⟨rfl, hB⟩
set_option maxRecDepth 100000 in
set_option maxHeartbeats 16000000 in
theorem ev1str_any (s : ByteArray) (b : Nat) (W : World) (hI : PkIn W) (hs : s.size ≤ maxLen) (hb : b < W.heap.size ∧ W.cell? ⟨b, 0, none⟩ = some fileF) : Calls Tryd.prog 35 #[.string s, .pointer (some ⟨b, 0, none⟩)] W fun r w' => r = .returned (.bool (!fileB s.toList)) ∧ Below W.heap.size W w' := by
  have FY := Lib.hid (fun X (h : Below W.heap.size W X) => dfile_pk s X hs (hI.below h))
  generalize fileB s.toList = r at *
  obtain ⟨_, c0⟩ := hb
  unfold fileF at c0
  clear hI
  go_enter Tryd.func35, Tryd.ntmps35
  go_wp2_with fail
  go_at_call 11
  refine (FY.out _ (Below.refl _ _)).mono ?_
  rintro e w2 ⟨rfl, h⟩
  cases r
  all_goals
    go_wp2
    go_ret
    exact ⟨rfl, h⟩
set_option maxRecDepth 100000 in
set_option maxHeartbeats 16000000 in
theorem everydep_any (l : List Dp) (A : Option Addr) (c : Nat) (w : World) (hI : PkIn w) (hl : Rd encD 5 w.heap.size A c l w) (hw : ∀ d ∈ l, d.wf) : Calls Tryd.prog 14 #[.slice A l.length c, .int .i64 32, mayF] w fun r w' => r = .returned (.bool (decide (l.length ≤ 32) && l.all (dmayB))) ∧ Below w.heap.size w w' := by
  have L1 := hl.len
  have b1 := (Below.refl w.heap.size w).alloc (Nat.le_refl _) (.cells #[mayF] 44)
  have hb := box_new w mayF 44
  have HC := Lib.hid (fun (hn : l.length ≤ 32) => hasdep_any 32 (fun _ _ => rfl) #[.pointer (some ⟨w.heap.size, 0, none⟩)] (fun x => !dmayB x) l A c _ ((hl.below b1).more b1.size) (by omega) (fun d hd W hB => ev1dep_any d _ W (hI.below (b1.trans (hB.mono b1.size))) (hw d hd) (box_calls hb hB)))
  have HR := Lib.hid (show (!l.any (fun x => !dmayB x)) = l.all (dmayB) from by rw [List.all_eq_not_any_not])
  clear hI hl hw
  unfold mayF
  by_cases hn : l.length ≤ 32
  · have hn2 : (l.length : Int) ≤ 32 := by omega
    have HC2 := Lib.hid (HC.out hn)
    have e : decide (l.length ≤ 32) = true := decide_eq_true hn
    rw [e, ← HR.out]
    clear e HC HR hn
    unfold mayF at HC2 b1
    generalize (l.any fun x => !dmayB x) = r at *
    generalize l.length = n at *
    go_enter Tryd.func14, Tryd.ntmps14
    go_wp2_with fail
    go_at_call 22
    refine HC2.out.mono ?_
    rintro e w2 ⟨rfl, h⟩
    have hB := b1.trans (h.mono b1.size)
    cases r
    all_goals
      go_wp2
      go_ret
      exact ⟨rfl, hB⟩
  · have hn2 : ¬ (l.length : Int) ≤ 32 := by omega
    have e : decide (l.length ≤ 32) = false := decide_eq_false hn
    rw [e]
    unfold mayF at b1
    clear e HC HR hn
    generalize l.all dmayB = r at *
    generalize l.length = n at *
    go_enter Tryd.func14, Tryd.ntmps14
    go_wp2
    go_ret
    exact ⟨by simp, b1⟩
def fileS (s : ByteArray) : Bool := fileB s.toList
set_option maxRecDepth 100000 in
set_option maxHeartbeats 16000000 in
theorem everystr_any (l : List ByteArray) (A : Option Addr) (c : Nat) (w : World) (hI : PkIn w) (hl : Rd (fun s => [Value.string s]) 1 w.heap.size A c l w) (hw : ∀ s ∈ l, s.size ≤ maxLen) : Calls Tryd.prog 16 #[.slice A l.length c, .int .i64 32, fileF] w fun r w' => r = .returned (.bool (decide (l.length ≤ 32) && l.all (fileS))) ∧ Below w.heap.size w w' := by
  have L1 := hl.len
  have b1 := (Below.refl w.heap.size w).alloc (Nat.le_refl _) (.cells #[fileF] 40)
  have hb := box_new w fileF 40
  have HC := Lib.hid (fun (hn : l.length ≤ 32) => hasstrf_any 35 (fun _ _ => rfl) #[.pointer (some ⟨w.heap.size, 0, none⟩)] (fun x => !fileS x) l A c _ ((hl.below b1).more b1.size) (by omega) (fun d hd W hB => ev1str_any d _ W (hI.below (b1.trans (hB.mono b1.size))) (hw d hd) (box_calls hb hB)))
  have HR := Lib.hid (show (!l.any (fun x => !fileS x)) = l.all (fileS) from by rw [List.all_eq_not_any_not])
  clear hI hl hw
  unfold fileF
  by_cases hn : l.length ≤ 32
  · have hn2 : (l.length : Int) ≤ 32 := by omega
    have HC2 := Lib.hid (HC.out hn)
    have e : decide (l.length ≤ 32) = true := decide_eq_true hn
    rw [e, ← HR.out]
    clear e HC HR hn
    unfold fileF at HC2 b1
    generalize (l.any fun x => !fileS x) = r at *
    generalize l.length = n at *
    go_enter Tryd.func16, Tryd.ntmps16
    go_wp2_with fail
    go_at_call 34
    refine HC2.out.mono ?_
    rintro e w2 ⟨rfl, h⟩
    have hB := b1.trans (h.mono b1.size)
    cases r
    all_goals
      go_wp2
      go_ret
      exact ⟨rfl, hB⟩
  · have hn2 : ¬ (l.length : Int) ≤ 32 := by omega
    have e : decide (l.length ≤ 32) = false := decide_eq_false hn
    rw [e]
    unfold fileF at b1
    clear e HC HR hn
    skip
    skip
    go_enter Tryd.func16, Tryd.ntmps16
    go_wp2
    go_ret
    exact ⟨by simp, b1⟩
set_option maxRecDepth 100000 in
set_option maxHeartbeats 16000000 in
theorem everyrich_nil (g : FuncId) (cp : Array Value) (A : Option Addr) (c : Nat) (w : World) : Calls Tryd.prog 18 #[.slice A 0 c, .int .i64 32, .func (.func g) #[] cp] w fun r w' => r = .returned (.bool true) ∧ Below w.heap.size w w' := by
  have b1 := (Below.refl w.heap.size w).alloc (Nat.le_refl _) (.cells #[.func (.func g) #[] cp] 52)
  go_enter Tryd.func18, Tryd.ntmps18
  go_wp2_with fail
  go_at_call 37
  refine (hasrich_nil _ A c _).mono ?_
  rintro e w2 ⟨rfl, h⟩
  have hB := b1.trans (h.mono b1.size)
  go_wp2
  go_ret
  exact ⟨rfl, hB⟩
set_option maxRecDepth 100000 in
set_option maxHeartbeats 16000000 in
theorem archis1 (w : World) : Calls Tryd.prog 30 #[.int .u8 1] w fun r w' => r = .returned (.bool true) ∧ Below w.heap.size w w' := by
  go_enter Tryd.func30, Tryd.ntmps30
  go_wp2
  go_ret
  exact ⟨rfl, Below.refl _ _⟩
set_option maxRecDepth 100000 in
set_option maxHeartbeats 16000000 in
theorem archnames (w : World) : Calls Tryd.prog 31 #[] w fun r w' => r = .returned (.agg #[.string ⟨#[]⟩, .string ⟨#[110, 111, 97, 114, 99, 104]⟩, .string ⟨#[120, 56, 54, 95, 54, 52]⟩, .string ⟨#[105, 54, 56, 54]⟩, .string ⟨#[97, 97, 114, 99, 104, 54, 52]⟩]) ∧ Below w.heap.size w w' := by
  go_enter Tryd.func31, Tryd.ntmps31
  go_wp2_with fail
  exact bodyPost_ret (v := .agg #[.string ⟨#[]⟩, .string ⟨#[110, 111, 97, 114, 99, 104]⟩, .string ⟨#[120, 56, 54, 95, 54, 52]⟩, .string ⟨#[105, 54, 56, 54]⟩, .string ⟨#[97, 97, 114, 99, 104, 54, 52]⟩]) (by simp [results, Tryd.results31, go_sem]) rfl ⟨rfl, (Below.refl _ _).alloc (Nat.le_refl _) _⟩
set_option maxRecDepth 100000 in
set_option maxHeartbeats 16000000 in
theorem archname1 (w : World) : Calls Tryd.prog 13 #[.int .u8 1] w fun r w' => r = .returned (.string ⟨#[110, 111, 97, 114, 99, 104]⟩) ∧ Below w.heap.size w w' := by
  go_enter Tryd.func13, Tryd.ntmps13
  go_wp2_with fail
  go_at_call 30
  refine (archis1 _).mono ?_
  rintro e w2 ⟨rfl, h⟩
  go_wp2_with fail
  go_at_call 31
  refine (archnames _).mono ?_
  rintro e w3 ⟨rfl, h3⟩
  have IX : (Instr.index 61 (.agg #[.string ⟨#[]⟩, .string ⟨#[110, 111, 97, 114, 99, 104]⟩, .string ⟨#[120, 56, 54, 95, 54, 52]⟩, .string ⟨#[105, 54, 56, 54]⟩, .string ⟨#[97, 97, 114, 99, 104, 54, 52]⟩]) (.int .u8 1)).run Tryd.prog w3 = .ok (.string ⟨#[110, 111, 97, 114, 99, 104]⟩) w3 := by rfl
  go_wp2
  go_ret
  exact ⟨rfl, h.trans (h3.mono h.size)⟩
set_option maxRecDepth 100000 in
set_option maxHeartbeats 16000000 in
theorem pklists_any (p : Pk) (w : World) : Calls Tryd.prog 17 #[p.val] w fun r w' => r = .returned (.func (.func 36) #[] #[.pointer (some ⟨w.heap.size, 0, none⟩)]) ∧ w' = w.alloc (.cells #[.string p.name, .int .i64 p.epoch, .string p.ver, .string p.rel, .int .u8 p.arch, .string p.vendor, .slice p.provA p.prov.length p.provC, .slice p.reqA p.req.length p.reqC, .slice p.conA p.con.length p.conC, .slice p.obsA p.obs.length p.obsC, .slice p.rcmA p.rcm.length p.rcmC, .slice p.supA p.sup.length p.supC, .slice p.sugA p.sug.length p.sugC, .slice p.enhA p.enh.length p.enhC, .slice p.filesA p.files.length p.filesC] 33) := by
  unfold Pk.val
  go_enter Tryd.func17, Tryd.ntmps17
  go_wp2_with fail
  go_ret
  exact ⟨rfl, rfl⟩
end Go.Proofs.YtcpjignlhlcnpaaDoor
