/- PkLarge2 -/
import Derived.Test.YteobmfpbgnmffaaGreatDoorPkgCopiesRowG24
import Derived.Deep.RegionLaw
set_option linter.unusedSimpArgs false
set_option linter.unusedVariables false
/- Walks: whether a package is more than a statement goes over (chandlerylaw10.large), with its parts counted. -/


namespace Go.Proofs.YteobmfpbgnmffaaGreatDoor
open Go.RowKit Go.Shelf
set_option linter.unusedVariables false

def sixL (p : Pk) : Nat → List RV | 0 => p.req | 1 => p.con | 2 => p.rcm | 3 => p.sup | 4 => p.sug | _ => p.enh
def LargePost2 (p : Pk) (w : World) (e : Ending) (w' : World) : Prop := ∃ r, e = .returned (.bool r) ∧ (r = false → p.small ∧ ∀ k, k < 6 → partsL (treeL (sixL p k)) ≤ 2000) ∧ Below w.heap.size w w'
theorem large_yes2 {p : Pk} {w w' : World} (h : Below w.heap.size w w') : LargePost2 p w (.returned (.bool true)) w' := ⟨true, rfl, (fun hf => by cases hf), h⟩
theorem much_zero2 (A : Option Addr) (cap : Nat) (l : List RV) (w : World) (h : RRow w.heap.size w A cap l) : Calls Tryz.prog 62 #[.slice A l.length cap, .int .i64 0] w (MuchPost2 l w) := much2_any 21 0 A cap l w rfl h
theorem six_at2 (w : World) (p : Pk) (e : TypeId) {w0 : World} (h : p.Laid w0.heap.size w) (hs : w0.heap.size ≤ w.heap.size) (W' : World) (hb : Below (w.alloc (.cells #[.slice p.reqA p.req.length p.reqC, .slice p.conA p.con.length p.conC, .slice p.rcmA p.rcm.length p.rcmC, .slice p.supA p.sup.length p.supC, .slice p.sugA p.sug.length p.sugC, .slice p.enhA p.enh.length p.enhC] e)).heap.size (w.alloc (.cells #[.slice p.reqA p.req.length p.reqC, .slice p.conA p.con.length p.conC, .slice p.rcmA p.rcm.length p.rcmC, .slice p.supA p.sup.length p.supC, .slice p.sugA p.sug.length p.sugC, .slice p.enhA p.enh.length p.enhC] e)) W') (k : Nat) (hk : k < 6) : ∃ A c, W'.cell? ⟨w.heap.size, k, none⟩ = some (.slice A (sixL p k).length c) ∧ RRow W'.heap.size W' A c (sixL p k) := by
  have b0 : Below w.heap.size w (w.alloc (.cells #[.slice p.reqA p.req.length p.reqC, .slice p.conA p.con.length p.conC, .slice p.rcmA p.rcm.length p.rcmC, .slice p.supA p.sup.length p.supC, .slice p.sugA p.sug.length p.sugC, .slice p.enhA p.enh.length p.enhC] e)) := (Below.refl _ w).alloc (Nat.le_refl _) _
  have b1 := b0.trans (hb.mono b0.size)
  have q := (h.more hs).calls b1
  have cc : ∀ v, (#[.slice p.reqA p.req.length p.reqC, .slice p.conA p.con.length p.conC, .slice p.rcmA p.rcm.length p.rcmC, .slice p.supA p.sup.length p.supC, .slice p.sugA p.sug.length p.sugC, .slice p.enhA p.enh.length p.enhC] : Array Value)[k]? = some v → W'.cell? ⟨w.heap.size, k, none⟩ = some v := fun v hv => (hb.cell (p := ⟨w.heap.size, k, none⟩) (by simp)).trans ((World.cell?_alloc_at _ _ _ _ rfl).trans hv)
  match k, hk with
  | 0, _ => exact ⟨p.reqA, p.reqC, cc _ rfl, q.req⟩
  | 1, _ => exact ⟨p.conA, p.conC, cc _ rfl, q.con⟩
  | 2, _ => exact ⟨p.rcmA, p.rcmC, cc _ rfl, q.rcm⟩
  | 3, _ => exact ⟨p.supA, p.supC, cc _ rfl, q.sup⟩
  | 4, _ => exact ⟨p.sugA, p.sugC, cc _ rfl, q.sug⟩
  | 5, _ => exact ⟨p.enhA, p.enhC, cc _ rfl, q.enh⟩
set_option maxRecDepth 100000 in
set_option maxHeartbeats 16000000 in
theorem pklarge2_any (p : Pk) (w : World) (h : p.Laid w.heap.size w) : Calls Tryz.prog 12 #[p.val] w (LargePost2 p w) := by
  have L1 := h.prov.len
  have L2 := h.obs.len
  have L3 := h.files.len
  have n0 := h.n0
  have n1 := h.n1
  have n2 := h.n2
  have n3 := h.n3
  unfold maxLen at n0 n1 n2 n3
  have H := Lib.hid h
  unfold Pk.val
  clear h
  have hbox : Below w.heap.size w (w.alloc (.cells #[.string p.name, .int .i64 p.epoch, .string p.ver, .string p.rel, .int .u8 p.arch, .string p.vendor, .slice p.provA p.prov.length p.provC, .slice p.reqA p.req.length p.reqC, .slice p.conA p.con.length p.conC, .slice p.obsA p.obs.length p.obsC, .slice p.rcmA p.rcm.length p.rcmC, .slice p.supA p.sup.length p.supC, .slice p.sugA p.sug.length p.sugC, .slice p.enhA p.enh.length p.enhC, .slice p.filesA p.files.length p.filesC] 28)) := (Below.refl _ w).alloc (Nat.le_refl _) _
  by_cases q0 : (100 : Int) < (p.prov.length : Int)
  · go_enter Tryz.func12, Tryz.ntmps12
    go_wp2_with fail
    go_ret
    exact large_yes2 hbox
  by_cases q1 : (100 : Int) < (p.obs.length : Int)
  · go_enter Tryz.func12, Tryz.ntmps12
    go_wp2_with fail
    go_ret
    exact large_yes2 hbox
  by_cases q2 : (100 : Int) < (p.files.length : Int)
  · go_enter Tryz.func12, Tryz.ntmps12
    go_wp2_with fail
    go_ret
    exact large_yes2 hbox
  by_cases q3 : (1000 : Int) < (p.name.size : Int)
  · go_enter Tryz.func12, Tryz.ntmps12
    go_wp2_with fail
    go_ret
    exact large_yes2 hbox
  by_cases q4 : (1000 : Int) < (p.vendor.size : Int)
  · go_enter Tryz.func12, Tryz.ntmps12
    go_wp2_with fail
    go_ret
    exact large_yes2 hbox
  by_cases q5 : (1000 : Int) < (p.ver.size : Int)
  · go_enter Tryz.func12, Tryz.ntmps12
    go_wp2_with fail
    go_ret
    exact large_yes2 hbox
  by_cases q6 : (1000 : Int) < (p.rel.size : Int)
  · go_enter Tryz.func12, Tryz.ntmps12
    go_wp2_with fail
    go_ret
    exact large_yes2 hbox
  have HB := Lib.hid hbox
  clear hbox
  go_enter Tryz.func12, Tryz.ntmps12
  go_wp2_with fail
  have c0 : (w.alloc (.cells #[.string p.name, .int .i64 p.epoch, .string p.ver, .string p.rel, .int .u8 p.arch, .string p.vendor, .slice p.provA p.prov.length p.provC, .slice p.reqA p.req.length p.reqC, .slice p.conA p.con.length p.conC, .slice p.obsA p.obs.length p.obsC, .slice p.rcmA p.rcm.length p.rcmC, .slice p.supA p.sup.length p.supC, .slice p.sugA p.sug.length p.sugC, .slice p.enhA p.enh.length p.enhC, .slice p.filesA p.files.length p.filesC] 28)).cell? ⟨w.heap.size, 0, none⟩ = some (.string p.name) := (World.cell?_alloc_at _ _ _ _ rfl).trans rfl
  have c1 : (w.alloc (.cells #[.string p.name, .int .i64 p.epoch, .string p.ver, .string p.rel, .int .u8 p.arch, .string p.vendor, .slice p.provA p.prov.length p.provC, .slice p.reqA p.req.length p.reqC, .slice p.conA p.con.length p.conC, .slice p.obsA p.obs.length p.obsC, .slice p.rcmA p.rcm.length p.rcmC, .slice p.supA p.sup.length p.supC, .slice p.sugA p.sug.length p.sugC, .slice p.enhA p.enh.length p.enhC, .slice p.filesA p.files.length p.filesC] 28)).cell? ⟨w.heap.size, 1, none⟩ = some (.int .i64 p.epoch) := (World.cell?_alloc_at _ _ _ _ rfl).trans rfl
  have c2 : (w.alloc (.cells #[.string p.name, .int .i64 p.epoch, .string p.ver, .string p.rel, .int .u8 p.arch, .string p.vendor, .slice p.provA p.prov.length p.provC, .slice p.reqA p.req.length p.reqC, .slice p.conA p.con.length p.conC, .slice p.obsA p.obs.length p.obsC, .slice p.rcmA p.rcm.length p.rcmC, .slice p.supA p.sup.length p.supC, .slice p.sugA p.sug.length p.sugC, .slice p.enhA p.enh.length p.enhC, .slice p.filesA p.files.length p.filesC] 28)).cell? ⟨w.heap.size, 2, none⟩ = some (.string p.ver) := (World.cell?_alloc_at _ _ _ _ rfl).trans rfl
  have c3 : (w.alloc (.cells #[.string p.name, .int .i64 p.epoch, .string p.ver, .string p.rel, .int .u8 p.arch, .string p.vendor, .slice p.provA p.prov.length p.provC, .slice p.reqA p.req.length p.reqC, .slice p.conA p.con.length p.conC, .slice p.obsA p.obs.length p.obsC, .slice p.rcmA p.rcm.length p.rcmC, .slice p.supA p.sup.length p.supC, .slice p.sugA p.sug.length p.sugC, .slice p.enhA p.enh.length p.enhC, .slice p.filesA p.files.length p.filesC] 28)).cell? ⟨w.heap.size, 3, none⟩ = some (.string p.rel) := (World.cell?_alloc_at _ _ _ _ rfl).trans rfl
  have c4 : (w.alloc (.cells #[.string p.name, .int .i64 p.epoch, .string p.ver, .string p.rel, .int .u8 p.arch, .string p.vendor, .slice p.provA p.prov.length p.provC, .slice p.reqA p.req.length p.reqC, .slice p.conA p.con.length p.conC, .slice p.obsA p.obs.length p.obsC, .slice p.rcmA p.rcm.length p.rcmC, .slice p.supA p.sup.length p.supC, .slice p.sugA p.sug.length p.sugC, .slice p.enhA p.enh.length p.enhC, .slice p.filesA p.files.length p.filesC] 28)).cell? ⟨w.heap.size, 4, none⟩ = some (.int .u8 p.arch) := (World.cell?_alloc_at _ _ _ _ rfl).trans rfl
  have c5 : (w.alloc (.cells #[.string p.name, .int .i64 p.epoch, .string p.ver, .string p.rel, .int .u8 p.arch, .string p.vendor, .slice p.provA p.prov.length p.provC, .slice p.reqA p.req.length p.reqC, .slice p.conA p.con.length p.conC, .slice p.obsA p.obs.length p.obsC, .slice p.rcmA p.rcm.length p.rcmC, .slice p.supA p.sup.length p.supC, .slice p.sugA p.sug.length p.sugC, .slice p.enhA p.enh.length p.enhC, .slice p.filesA p.files.length p.filesC] 28)).cell? ⟨w.heap.size, 5, none⟩ = some (.string p.vendor) := (World.cell?_alloc_at _ _ _ _ rfl).trans rfl
  have c6 : (w.alloc (.cells #[.string p.name, .int .i64 p.epoch, .string p.ver, .string p.rel, .int .u8 p.arch, .string p.vendor, .slice p.provA p.prov.length p.provC, .slice p.reqA p.req.length p.reqC, .slice p.conA p.con.length p.conC, .slice p.obsA p.obs.length p.obsC, .slice p.rcmA p.rcm.length p.rcmC, .slice p.supA p.sup.length p.supC, .slice p.sugA p.sug.length p.sugC, .slice p.enhA p.enh.length p.enhC, .slice p.filesA p.files.length p.filesC] 28)).cell? ⟨w.heap.size, 6, none⟩ = some (.slice p.provA p.prov.length p.provC) := (World.cell?_alloc_at _ _ _ _ rfl).trans rfl
  have c7 : (w.alloc (.cells #[.string p.name, .int .i64 p.epoch, .string p.ver, .string p.rel, .int .u8 p.arch, .string p.vendor, .slice p.provA p.prov.length p.provC, .slice p.reqA p.req.length p.reqC, .slice p.conA p.con.length p.conC, .slice p.obsA p.obs.length p.obsC, .slice p.rcmA p.rcm.length p.rcmC, .slice p.supA p.sup.length p.supC, .slice p.sugA p.sug.length p.sugC, .slice p.enhA p.enh.length p.enhC, .slice p.filesA p.files.length p.filesC] 28)).cell? ⟨w.heap.size, 7, none⟩ = some (.slice p.reqA p.req.length p.reqC) := (World.cell?_alloc_at _ _ _ _ rfl).trans rfl
  have c8 : (w.alloc (.cells #[.string p.name, .int .i64 p.epoch, .string p.ver, .string p.rel, .int .u8 p.arch, .string p.vendor, .slice p.provA p.prov.length p.provC, .slice p.reqA p.req.length p.reqC, .slice p.conA p.con.length p.conC, .slice p.obsA p.obs.length p.obsC, .slice p.rcmA p.rcm.length p.rcmC, .slice p.supA p.sup.length p.supC, .slice p.sugA p.sug.length p.sugC, .slice p.enhA p.enh.length p.enhC, .slice p.filesA p.files.length p.filesC] 28)).cell? ⟨w.heap.size, 8, none⟩ = some (.slice p.conA p.con.length p.conC) := (World.cell?_alloc_at _ _ _ _ rfl).trans rfl
  have c9 : (w.alloc (.cells #[.string p.name, .int .i64 p.epoch, .string p.ver, .string p.rel, .int .u8 p.arch, .string p.vendor, .slice p.provA p.prov.length p.provC, .slice p.reqA p.req.length p.reqC, .slice p.conA p.con.length p.conC, .slice p.obsA p.obs.length p.obsC, .slice p.rcmA p.rcm.length p.rcmC, .slice p.supA p.sup.length p.supC, .slice p.sugA p.sug.length p.sugC, .slice p.enhA p.enh.length p.enhC, .slice p.filesA p.files.length p.filesC] 28)).cell? ⟨w.heap.size, 9, none⟩ = some (.slice p.obsA p.obs.length p.obsC) := (World.cell?_alloc_at _ _ _ _ rfl).trans rfl
  have c10 : (w.alloc (.cells #[.string p.name, .int .i64 p.epoch, .string p.ver, .string p.rel, .int .u8 p.arch, .string p.vendor, .slice p.provA p.prov.length p.provC, .slice p.reqA p.req.length p.reqC, .slice p.conA p.con.length p.conC, .slice p.obsA p.obs.length p.obsC, .slice p.rcmA p.rcm.length p.rcmC, .slice p.supA p.sup.length p.supC, .slice p.sugA p.sug.length p.sugC, .slice p.enhA p.enh.length p.enhC, .slice p.filesA p.files.length p.filesC] 28)).cell? ⟨w.heap.size, 10, none⟩ = some (.slice p.rcmA p.rcm.length p.rcmC) := (World.cell?_alloc_at _ _ _ _ rfl).trans rfl
  have c11 : (w.alloc (.cells #[.string p.name, .int .i64 p.epoch, .string p.ver, .string p.rel, .int .u8 p.arch, .string p.vendor, .slice p.provA p.prov.length p.provC, .slice p.reqA p.req.length p.reqC, .slice p.conA p.con.length p.conC, .slice p.obsA p.obs.length p.obsC, .slice p.rcmA p.rcm.length p.rcmC, .slice p.supA p.sup.length p.supC, .slice p.sugA p.sug.length p.sugC, .slice p.enhA p.enh.length p.enhC, .slice p.filesA p.files.length p.filesC] 28)).cell? ⟨w.heap.size, 11, none⟩ = some (.slice p.supA p.sup.length p.supC) := (World.cell?_alloc_at _ _ _ _ rfl).trans rfl
  have c12 : (w.alloc (.cells #[.string p.name, .int .i64 p.epoch, .string p.ver, .string p.rel, .int .u8 p.arch, .string p.vendor, .slice p.provA p.prov.length p.provC, .slice p.reqA p.req.length p.reqC, .slice p.conA p.con.length p.conC, .slice p.obsA p.obs.length p.obsC, .slice p.rcmA p.rcm.length p.rcmC, .slice p.supA p.sup.length p.supC, .slice p.sugA p.sug.length p.sugC, .slice p.enhA p.enh.length p.enhC, .slice p.filesA p.files.length p.filesC] 28)).cell? ⟨w.heap.size, 12, none⟩ = some (.slice p.sugA p.sug.length p.sugC) := (World.cell?_alloc_at _ _ _ _ rfl).trans rfl
  have c13 : (w.alloc (.cells #[.string p.name, .int .i64 p.epoch, .string p.ver, .string p.rel, .int .u8 p.arch, .string p.vendor, .slice p.provA p.prov.length p.provC, .slice p.reqA p.req.length p.reqC, .slice p.conA p.con.length p.conC, .slice p.obsA p.obs.length p.obsC, .slice p.rcmA p.rcm.length p.rcmC, .slice p.supA p.sup.length p.supC, .slice p.sugA p.sug.length p.sugC, .slice p.enhA p.enh.length p.enhC, .slice p.filesA p.files.length p.filesC] 28)).cell? ⟨w.heap.size, 13, none⟩ = some (.slice p.enhA p.enh.length p.enhC) := (World.cell?_alloc_at _ _ _ _ rfl).trans rfl
  have c14 : (w.alloc (.cells #[.string p.name, .int .i64 p.epoch, .string p.ver, .string p.rel, .int .u8 p.arch, .string p.vendor, .slice p.provA p.prov.length p.provC, .slice p.reqA p.req.length p.reqC, .slice p.conA p.con.length p.conC, .slice p.obsA p.obs.length p.obsC, .slice p.rcmA p.rcm.length p.rcmC, .slice p.supA p.sup.length p.supC, .slice p.sugA p.sug.length p.sugC, .slice p.enhA p.enh.length p.enhC, .slice p.filesA p.files.length p.filesC] 28)).cell? ⟨w.heap.size, 14, none⟩ = some (.slice p.filesA p.files.length p.filesC) := (World.cell?_alloc_at _ _ _ _ rfl).trans rfl
  have hg : w.heap.size < (w.alloc (.cells #[.string p.name, .int .i64 p.epoch, .string p.ver, .string p.rel, .int .u8 p.arch, .string p.vendor, .slice p.provA p.prov.length p.provC, .slice p.reqA p.req.length p.reqC, .slice p.conA p.con.length p.conC, .slice p.obsA p.obs.length p.obsC, .slice p.rcmA p.rcm.length p.rcmC, .slice p.supA p.sup.length p.supC, .slice p.sugA p.sug.length p.sugC, .slice p.enhA p.enh.length p.enhC, .slice p.filesA p.files.length p.filesC] 28)).heap.size := by simp
  have HP := Lib.hid (H.out.prov.below HB.out)
  have HO := Lib.hid (H.out.obs.below HB.out)
  generalize (w.alloc (.cells #[.string p.name, .int .i64 p.epoch, .string p.ver, .string p.rel, .int .u8 p.arch, .string p.vendor, .slice p.provA p.prov.length p.provC, .slice p.reqA p.req.length p.reqC, .slice p.conA p.con.length p.conC, .slice p.obsA p.obs.length p.obsC, .slice p.rcmA p.rcm.length p.rcmC, .slice p.supA p.sup.length p.supC, .slice p.sugA p.sug.length p.sugC, .slice p.enhA p.enh.length p.enhC, .slice p.filesA p.files.length p.filesC] 28)) = ws at *
  generalize hgw : w.heap.size = g at *
  have SM := Lib.hid (fun (h1 : ∀ d ∈ p.prov ++ p.obs, d.small) (h2 : ∀ s ∈ p.files, s.size ≤ 500) => show p.small from ⟨by omega, by omega, by omega, by omega, by omega, by omega, by omega, fun d hd => h1 d (List.mem_append_left _ hd), fun d hd => h1 d (List.mem_append_right _ hd), h2⟩)
  have hDW : ∀ d ∈ p.prov ++ p.obs, d.wf := fun d hd => (List.mem_append.1 hd).elim (H.out.provW d) (H.out.obsW d)
  have HDW := Lib.hid hDW
  clear hDW
  go_region_law (first | (refine step_append_rd _ rfl _ _ 24 rfl ws.heap.size 37 _ _ 5 _ (by rfl) (by rfl) (by rfl) (by rfl) (by rfl) (by rfl) (by decide) encD_len encD_one v1 _ _ rfl ho1 _ p.obsA _ p.obs _ rfl rfl (HO.out.below (hB1.mono (Nat.le_of_lt hg))) (by omega) (by decide) hB1.size ?_; intro v2 w2 ho2 hg2 hv2; have hB2 := hB1.grown hg2 hB1.size (fun k hk => (World.ownsRow.lt ho1 k hk).1)) | (refine step_append_rd _ rfl _ _ 24 rfl ws.heap.size 37 _ _ 5 _ (by rfl) (by rfl) (by rfl) (by rfl) (by rfl) (by rfl) (by decide) encD_len encD_one _ 0 [] rfl (by first | exact World.ownsRow_made _ #[] 0 (Nat.le_refl _) (Nat.zero_le _) rfl) _ p.provA _ p.prov _ rfl rfl (HP.out.below (Below.mono (by first | exact (Below.refl _ _).drew | exact ((Below.refl _ ws).alloc (Nat.le_refl _) _).drew | exact (Below.refl _ ws).alloc (Nat.le_refl _) _) (Nat.le_of_lt hg))) (by omega) (by decide) (by simp; try omega) ?_; intro v1 w1 ho1 hg1 hv1; have hB1 : Below ws.heap.size ws w1 := Below.grown (by first | exact (Below.refl _ _).drew | exact ((Below.refl _ ws).alloc (Nat.le_refl _) _).drew | exact (Below.refl _ ws).alloc (Nat.le_refl _) _) hg1 (by simp; try omega) (by intro k hk; cases hk; first | exact Nat.le_refl _ | simp); have d9 : w1.cell? ⟨g, 9, none⟩ = some (.slice p.obsA p.obs.length p.obsC) := (hB1.cell (p := ⟨g, 9, none⟩) hg).trans c9))
  all_goals
    subst hgw
    have hOwn : Own encD 5 ws.heap.size 37 v2 (p.prov ++ p.obs) w2 := by unfold Own; rw [List.flatMap_append, List.length_append]; simpa using ho2
    obtain ⟨A, c, rfl, hrd⟩ := hOwn.rd encD_len
    have HD := Lib.hid hrd
    have f14 : w2.cell? ⟨w.heap.size, 14, none⟩ = some (.slice p.filesA p.files.length p.filesC) := (hB2.cell (p := ⟨w.heap.size, 14, none⟩) hg).trans c14
    have f7 : w2.cell? ⟨w.heap.size, 7, none⟩ = some (.slice p.reqA p.req.length p.reqC) := (hB2.cell (p := ⟨w.heap.size, 7, none⟩) hg).trans c7
    have f8 : w2.cell? ⟨w.heap.size, 8, none⟩ = some (.slice p.conA p.con.length p.conC) := (hB2.cell (p := ⟨w.heap.size, 8, none⟩) hg).trans c8
    have f10 : w2.cell? ⟨w.heap.size, 10, none⟩ = some (.slice p.rcmA p.rcm.length p.rcmC) := (hB2.cell (p := ⟨w.heap.size, 10, none⟩) hg).trans c10
    have f11 : w2.cell? ⟨w.heap.size, 11, none⟩ = some (.slice p.supA p.sup.length p.supC) := (hB2.cell (p := ⟨w.heap.size, 11, none⟩) hg).trans c11
    have f12 : w2.cell? ⟨w.heap.size, 12, none⟩ = some (.slice p.sugA p.sug.length p.sugC) := (hB2.cell (p := ⟨w.heap.size, 12, none⟩) hg).trans c12
    have f13 : w2.cell? ⟨w.heap.size, 13, none⟩ = some (.slice p.enhA p.enh.length p.enhC) := (hB2.cell (p := ⟨w.heap.size, 13, none⟩) hg).trans c13
    have hgs := Nat.lt_of_lt_of_le hg hB2.size
    have HB2 := Lib.hid (HB.out.trans (hB2.mono HB.out.size))
    have HL := Lib.hid (H.out.below HB2.out)
    have hDn : (p.prov ++ p.obs).length ≤ 200 := by rw [List.length_append]; omega
    clear ho1 ho2 hg1 hg2 hv1 hv2 hB1 hB2 d9 hOwn hrd HP HO H HB c0 c1 c2 c3 c4 c5 c6 c7 c8 c9 c10 c11 c12 c13 c14
    generalize p.prov ++ p.obs = D at *
    obtain ⟨N, hN⟩ : ∃ N, N = D.length := ⟨_, rfl⟩
    rw [← hN] at hDn ⊢
    have HN := Lib.hid hN
    clear hN hg
    go_wp2_with fail
    go_loop [4] (fun i => ∃ k : Nat, k ≤ N ∧ i = .int .i64 (k : Int) ∧ Hid (∀ j (hj : j < D.length), j < k → (D[j]).small)) (fun i => N - (intOf i).toNat)
    case atStart => exact ⟨0, by omega, rfl, Lib.hid (by intro j hj h; omega)⟩
    case round =>
      obtain ⟨k, hk, rfl, hS⟩ := hrel
      by_cases hlt : k < N
      · have hkl : k < D.length := by have := HN.out; omega
        obtain ⟨b, o, rfl, hb, e0, e1, e2, e3, e4⟩ := HD.out.dep_at hkl
        have hdw := HDW.out _ (List.getElem_mem hkl)
        obtain ⟨m0, _, _, m1, m2⟩ := hdw
        have HS2 := Lib.hid (fun (h : (D[k]).small) => show ∀ j (hj : j < D.length), j < k + 1 → (D[j]).small from fun j hj hjk => by
          by_cases e : j = k
          · subst e; exact h
          · exact hS.out j hj (by omega))
        generalize D[k] = d at *
        unfold maxLen at m0 m1 m2
        have s0 := bs_size d.name
        have s1 := bs_size d.evr.ver
        have s2 := bs_size d.evr.rel
        have HS3 := Lib.hid (fun (h0 : (bs d.name).size ≤ 500) (h1 : (bs d.evr.ver).size ≤ 500) (h2 : (bs d.evr.rel).size ≤ 500) => HS2.out ⟨by omega, by omega, by omega⟩)
        rw [← s0] at m0
        rw [← s1] at m1
        rw [← s2] at m2
        generalize bs d.name = t0 at *
        generalize bs d.evr.ver = t1 at *
        generalize bs d.evr.rel = t2 at *
        have i0 : (0 : Int) ≤ (k : Int) := by omega
        have i1 : (k : Int) < (N : Int) := by omega
        clear HS2 hS s0 s1 s2 e1 e2
        by_cases q0' : (500 : Int) < (t0.size : Int)
        · go_wp2_with fail
          go_ret
          exact large_yes2 HB2.out
        by_cases q1' : (500 : Int) < (t1.size : Int)
        · go_wp2_with fail
          go_ret
          exact large_yes2 HB2.out
        by_cases q2' : (500 : Int) < (t2.size : Int)
        · go_wp2_with fail
          go_ret
          exact large_yes2 HB2.out
        go_wp2_with fail
        go_round
        case rel => exact ⟨k + 1, by omega, by go_num, Lib.hid (HS3.out (by omega) (by omega) (by omega))⟩
        case measure => simp [intOf]; omega
      · have i1 : ¬ (k : Int) < (N : Int) := by omega
        have HA := Lib.hid (show ∀ d ∈ D, d.small from fun d hd => by obtain ⟨j, hj, rfl⟩ := List.getElem_of_mem hd; exact hS.out j hj (by have := HN.out; omega))
        clear hS hk
        obtain ⟨M, hM⟩ : ∃ M, M = p.files.length := ⟨_, rfl⟩
        have HM := Lib.hid hM
        rw [← hM] at f14 q2 L3
        clear hM
        go_wp2_with fail
        go_loop [5] (fun i => ∃ k : Nat, k ≤ M ∧ i = .int .i64 (k : Int) ∧ Hid (∀ j (hj : j < p.files.length), j < k → (p.files[j]).size ≤ 500)) (fun i => M - (intOf i).toNat)
        case atStart => exact ⟨0, by omega, rfl, Lib.hid (by intro j hj h; omega)⟩
        case round =>
          obtain ⟨k, hk, rfl, hS⟩ := hrel
          by_cases hlt : k < M
          · have hkl : k < p.files.length := by have := HM.out; omega
            obtain ⟨b, o, hA, hb, e0⟩ := HL.out.files.at1 (f := fun s => Value.string s) (fun _ => rfl) hkl
            rw [hA] at f14
            have m0 := HL.out.filesW _ (List.getElem_mem hkl)
            unfold maxLen at m0
            have HS2 := Lib.hid (fun (h : (p.files[k]).size ≤ 500) => show ∀ j (hj : j < p.files.length), j < k + 1 → (p.files[j]).size ≤ 500 from fun j hj hjk => by
              by_cases e : j = k
              · subst e; exact h
              · exact hS.out j hj (by omega))
            generalize p.files[k] = t at *
            have i0 : (0 : Int) ≤ (k : Int) := by omega
            have i1 : (k : Int) < (M : Int) := by omega
            clear hS hA
            by_cases q0' : (500 : Int) < (t.size : Int)
            · go_wp2_with fail
              go_ret
              exact large_yes2 HB2.out
            go_wp2_with fail
            go_round
            case rel => exact ⟨k + 1, by omega, by go_num, Lib.hid (HS2.out (by omega))⟩
            case measure => simp [intOf]; omega
          · have i1 : ¬ (k : Int) < (M : Int) := by omega
            have SM2 := Lib.hid (SM.out HA.out (fun s hs => by obtain ⟨j, hj, rfl⟩ := List.getElem_of_mem hs; exact hS.out j hj (by have := HM.out; omega)))
            clear hS SM HA
            have H6 := Lib.hid (fun W' (h : Below (w2.alloc (.cells #[.slice p.reqA p.req.length p.reqC, .slice p.conA p.con.length p.conC, .slice p.rcmA p.rcm.length p.rcmC, .slice p.supA p.sup.length p.supC, .slice p.sugA p.sug.length p.sugC, .slice p.enhA p.enh.length p.enhC] 25)).heap.size (w2.alloc (.cells #[.slice p.reqA p.req.length p.reqC, .slice p.conA p.con.length p.conC, .slice p.rcmA p.rcm.length p.rcmC, .slice p.supA p.sup.length p.supC, .slice p.sugA p.sug.length p.sugC, .slice p.enhA p.enh.length p.enhC] 25)) W') (k : Nat) (hk : k < 6) => six_at2 w2 p 25 HL.out HB2.out.size W' h k hk)
            have HB3 := Lib.hid (HB2.out.alloc HB2.out.size (.cells #[.slice p.reqA p.req.length p.reqC, .slice p.conA p.con.length p.conC, .slice p.rcmA p.rcm.length p.rcmC, .slice p.supA p.sup.length p.supC, .slice p.sugA p.sug.length p.sugC, .slice p.enhA p.enh.length p.enhC] 25))
            go_wp2_with fail
            generalize w2.alloc (.cells #[.slice p.reqA p.req.length p.reqC, .slice p.conA p.con.length p.conC, .slice p.rcmA p.rcm.length p.rcmC, .slice p.supA p.sup.length p.supC, .slice p.sugA p.sug.length p.sugC, .slice p.enhA p.enh.length p.enhC] 25) = V at *
            generalize w2.heap.size = gv at *
            go_loopw [6, 121] (fun m i wr => ∃ k n : Nat, k ≤ 6 ∧ n ≤ 3000 ∧ i = .int .i64 (k : Int) ∧ m = .int .i64 (n : Int) ∧ Hid (∀ j, j < k → partsL (treeL (sixL p j)) ≤ 2000) ∧ Below V.heap.size V wr) (fun _ i _ => 6 - (intOf i).toNat)
            case atStart => exact ⟨0, 0, by omega, by omega, rfl, rfl, Lib.hid (by intro j h; omega), Below.refl _ _⟩
            case round =>
              obtain ⟨k, n, hk, hn, rfl, rfl, HSX, hB⟩ := hrel
              rename World => wr
              by_cases hlt : k < 6
              · obtain ⟨A6, c6, e6, h6⟩ := H6.out wr hB k hlt
                have HSY := Lib.hid (fun (h : partsL (treeL (sixL p k)) ≤ 2000) => show ∀ j, j < k + 1 → partsL (treeL (sixL p j)) ≤ 2000 from fun j hj => by
                  by_cases e : j = k
                  · subst e; exact h
                  · exact HSX.out j (by omega))
                generalize sixL p k = l6 at *
                have MU := Lib.hid (much_zero2 A6 c6 l6 wr h6)
                have i0 : (0 : Int) ≤ (k : Int) := by omega
                have i1 : (k : Int) < 6 := by omega
                clear h6
                go_wp2_with fail
                go_at_call 62
                refine MU.out.mono ?_
                rintro e w3 ⟨m, r, rfl, hm, hmp, h⟩
                have HMP := Lib.hid hmp
                clear hmp
                have hB3 := hB.trans (h.mono hB.size)
                clear h MU
                cases r
                · by_cases q6' : (3000 : Int) < (n : Int) + (m : Int)
                  · go_wp2_with fail
                    go_ret
                    exact large_yes2 (HB3.out.trans (hB3.mono HB3.out.size))
                  · go_wp2_with fail
                    go_roundw
                    case rel => exact ⟨k + 1, n + m, by omega, by omega, by go_num, by go_num, Lib.hid (HSY.out (by have := HMP.out (by trivial); omega)), hB3⟩
                    case measure => simp [intOf]; omega
                · go_wp2_with fail
                  go_ret
                  exact large_yes2 (HB3.out.trans (hB3.mono HB3.out.size))
              · have i1 : ¬ (k : Int) < 6 := by omega
                go_wp2_with fail
                go_ret
                exact ⟨false, rfl, fun _ => ⟨SM2.out, fun j hj => HSX.out j (by omega)⟩, HB3.out.trans (hB.mono HB3.out.size)⟩
end Go.Proofs.YteobmfpbgnmffaaGreatDoor
