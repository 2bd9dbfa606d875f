/- RichSame, PkMuch2, PkLarge2, StSlim, EvRefW, DepMay -/
import Derived.Test.YteobmfpbgnmffaaGreatDoorTruthMoreRowG08
import Derived.Test.YteobmfpbgnmffaaGreatDoorTruthMoreRowG06
import Derived.Test.YteobmfpbgnmffaaGreatDoorTruthMoreRowG07
import Derived.Test.YteobmfpbgnmffaaGreatDoorTruthMoreRowG05
import Derived.Deep.QuietTactic
import Derived.BigQuiet
import Derived.StillTailTactics
import Derived.Deep.RegionLaw
import Derived.Laws.IdiomStrings
import Derived.RegionTactic
import Derived.ChangeAlike
set_option linter.unusedSimpArgs false
set_option linter.unusedVariables false
namespace Go.Proofs.YteobmfpbgnmffaaGreatDoor
section
/- Walks: are two rich dependencies the same (chandleryref08.Same). -/






open Go.RowKit Go.Shelf
set_option linter.unusedVariables false

mutual
def RV.ht : RV → Nat | .node _ _ _ _ l => htL l + 1
def htL : List RV → Nat | [] => 0 | a :: l => max a.ht (htL l)
end
theorem ht_mem {a : RV} : ∀ {l : List RV}, a ∈ l → a.ht ≤ htL l
  | [], h => by simp at h
  | b :: l, h => by
    simp only [htL]
    rcases List.mem_cons.1 h with rfl | h
    · exact Nat.le_max_left _ _
    · exact Nat.le_trans (ht_mem h) (Nat.le_max_right _ _)
theorem ht_args (t : RV) : t.ht = htL t.args + 1 := by obtain ⟨k, d, A, c, l⟩ := t; rfl
theorem tree_parts (t : RV) : t.tree = .mk t.kind t.dep (treeL t.args) := by obtain ⟨k, d, A, c, l⟩ := t; rfl
theorem RTree.rrow {B : Nat} {W : World} {t : RV} (h : RTree B W t) : RRow B W t.addr t.cap t.args := ⟨h.row, h.sub⟩
theorem treeL_get (l : List RV) (k : Nat) (h : k < l.length) : (treeL l)[k]'(by rw [treeL_len]; exact h) = l[k].tree := by
  induction l generalizing k with
  | nil => simp at h
  | cons a l ih => cases k with
    | zero => simp [treeL]
    | succ k => simp only [treeL, List.getElem_cons_succ]; exact ih k (by simpa using h)
end
section
/- Walks: of how many parts rich dependencies are, told exactly (chandlerylaw10.much). -/



open Go.RowKit Go.Shelf
set_option linter.unusedVariables false

theorem partsL_take3 {l : List RT} {k : Nat} (hk : k < l.length) : partsL (l.take (k + 1)) = partsL (l.take k) + l[k].parts := by rw [List.take_succ_eq_append_getElem hk, partsL_app]; simp [partsL]
/-- what much hands back -/
def MuchPost2 (l : List RV) (w : World) (e : Ending) (w' : World) : Prop := ∃ (m : Nat) (r : Bool), e = .returned (.tuple #[.int .i64 (m : Int), .bool r]) ∧ m ≤ 2000 ∧ (r = false → m = partsL (treeL l)) ∧ Below w.heap.size w w'
end
section
/- Walks: whether a package is more than a statement goes over (chandlerylaw10.large), with its parts counted. -/



open Go.RowKit Go.Shelf
set_option linter.unusedVariables false

def sixL (p : Pk) : Nat → List RV | 0 => p.req | 1 => p.con | 2 => p.rcm | 3 => p.sup | 4 => p.sug | _ => p.enh
theorem six_at2 (w : World) (p : Pk) (e : TypeId) {w0 : World} (h : p.Laid w0.heap.size w) (hs : w0.heap.size ≤ w.heap.size) (W' : World) (hb : Below (w.alloc (.cells #[.slice p.reqA p.req.length p.reqC, .slice p.conA p.con.length p.conC, .slice p.rcmA p.rcm.length p.rcmC, .slice p.supA p.sup.length p.supC, .slice p.sugA p.sug.length p.sugC, .slice p.enhA p.enh.length p.enhC] e)).heap.size (w.alloc (.cells #[.slice p.reqA p.req.length p.reqC, .slice p.conA p.con.length p.conC, .slice p.rcmA p.rcm.length p.rcmC, .slice p.supA p.sup.length p.supC, .slice p.sugA p.sug.length p.sugC, .slice p.enhA p.enh.length p.enhC] e)) W') (k : Nat) (hk : k < 6) : ∃ A c, W'.cell? ⟨w.heap.size, k, none⟩ = some (.slice A (sixL p k).length c) ∧ RRow W'.heap.size W' A c (sixL p k) := by
  have b0 : Below w.heap.size w (w.alloc (.cells #[.slice p.reqA p.req.length p.reqC, .slice p.conA p.con.length p.conC, .slice p.rcmA p.rcm.length p.rcmC, .slice p.supA p.sup.length p.supC, .slice p.sugA p.sug.length p.sugC, .slice p.enhA p.enh.length p.enhC] e)) := (Below.refl _ w).alloc (Nat.le_refl _) _
  have b1 := b0.trans (hb.mono b0.size)
  have q := (h.more hs).calls b1
  have cc : ∀ v, (#[.slice p.reqA p.req.length p.reqC, .slice p.conA p.con.length p.conC, .slice p.rcmA p.rcm.length p.rcmC, .slice p.supA p.sup.length p.supC, .slice p.sugA p.sug.length p.sugC, .slice p.enhA p.enh.length p.enhC] : Array Value)[k]? = some v → W'.cell? ⟨w.heap.size, k, none⟩ = some v := fun v hv => (hb.cell (p := ⟨w.heap.size, k, none⟩) (by simp)).trans ((World.cell?_alloc_at _ _ _ _ rfl).trans hv)
  match k, hk with
  | 0, _ => exact ⟨p.reqA, p.reqC, cc _ rfl, q.req⟩
  | 1, _ => exact ⟨p.conA, p.conC, cc _ rfl, q.con⟩
  | 2, _ => exact ⟨p.rcmA, p.rcmC, cc _ rfl, q.rcm⟩
  | 3, _ => exact ⟨p.supA, p.supC, cc _ rfl, q.sup⟩
  | 4, _ => exact ⟨p.sugA, p.sugC, cc _ rfl, q.sug⟩
  | 5, _ => exact ⟨p.enhA, p.enhC, cc _ rfl, q.enh⟩
end
section
/- A package that is not more than a statement goes over. -/



open Go.RowKit Go.Shelf
set_option linter.unusedVariables false

structure Pk.slim (p : Pk) : Prop where
  name : p.name.size ≤ 1000
  ver : p.ver.size ≤ 1000
  rel : p.rel.size ≤ 1000
  vendor : p.vendor.size ≤ 1000
  provN : p.prov.length ≤ 100
  obsN : p.obs.length ≤ 100
  filesN : p.files.length ≤ 100
  parts : ∀ k, k < 6 → partsL (treeL (sixL p k)) ≤ 2000
def SlimPost (p : Pk) (w : World) (e : Ending) (w' : World) : Prop := ∃ r, e = .returned (.bool r) ∧ (r = false → p.slim) ∧ Below w.heap.size w w'
theorem slim_yes {p : Pk} {w w' : World} (h : Below w.heap.size w w') : SlimPost p w (.returned (.bool true)) w' := ⟨true, rfl, (fun hf => by cases hf), h⟩
end
section
/- Walks: EVRs by the document: which may be, their texts. -/







open Go.RowKit Go.Shelf

theorem below_drewN {B : Nat} {w W : World} {n : Nat} (h : Below B w W) : Below B w (W.drewN n) := ⟨h.os, h.tape, h.output, h.size, h.block⟩
end
section
/- Walks: which dependencies may be. -/





open Go.RowKit Go.Shelf

theorem keep_d1 {d : Dp} {n : Nat} {w W W' : World} (h : W.cell? ⟨n, 0, none⟩ = some (.string (bs d.name)) ∧ W.cell? ⟨n, 1, none⟩ = some (.int .u8 d.op) ∧ W.cell? ⟨n, 2, none⟩ = some (.int .i64 d.evr.epoch) ∧ W.cell? ⟨n, 3, none⟩ = some (.string (bs d.evr.ver)) ∧ W.cell? ⟨n, 4, none⟩ = some (.string (bs d.evr.rel)) ∧ n < W.heap.size ∧ Below n w W) (hb : Below W.heap.size W W') :
    W'.cell? ⟨n, 0, none⟩ = some (.string (bs d.name)) ∧ W'.cell? ⟨n, 1, none⟩ = some (.int .u8 d.op) ∧ W'.cell? ⟨n, 2, none⟩ = some (.int .i64 d.evr.epoch) ∧ W'.cell? ⟨n, 3, none⟩ = some (.string (bs d.evr.ver)) ∧ W'.cell? ⟨n, 4, none⟩ = some (.string (bs d.evr.rel)) ∧ n < W'.heap.size ∧ Below n w W' := by
  obtain ⟨c0_0, c0_1, c0_2, c0_3, c0_4, l0, hB⟩ := h
  have hB_le : n ≤ W.heap.size := by omega
  exact ⟨(hb.cell (p := ⟨n, 0, none⟩) l0).trans c0_0, (hb.cell (p := ⟨n, 1, none⟩) l0).trans c0_1, (hb.cell (p := ⟨n, 2, none⟩) l0).trans c0_2, (hb.cell (p := ⟨n, 3, none⟩) l0).trans c0_3, (hb.cell (p := ⟨n, 4, none⟩) l0).trans c0_4, Nat.lt_of_lt_of_le l0 hb.size, hB.trans (hb.mono hB_le)⟩
theorem new_d1 (d : Dp) (w : World) : let W := (w.alloc (.cells #[.string (bs d.name), .int .u8 d.op, .int .i64 d.evr.epoch, .string (bs d.evr.ver), .string (bs d.evr.rel)] 37)); let n := w.heap.size; W.cell? ⟨n, 0, none⟩ = some (.string (bs d.name)) ∧ W.cell? ⟨n, 1, none⟩ = some (.int .u8 d.op) ∧ W.cell? ⟨n, 2, none⟩ = some (.int .i64 d.evr.epoch) ∧ W.cell? ⟨n, 3, none⟩ = some (.string (bs d.evr.ver)) ∧ W.cell? ⟨n, 4, none⟩ = some (.string (bs d.evr.rel)) ∧ n < W.heap.size ∧ Below n w W := by
  refine ⟨?_, ?_, ?_, ?_, ?_, ?_, ?_⟩
  all_goals first | exact (World.cell?_alloc_at _ _ _ _ (by simp)).trans rfl | exact ((Below.refl _ _).alloc (by simp; try omega) _) | (simp; try omega)
set_option maxRecDepth 100000 in
set_option maxHeartbeats 16000000 in
theorem dmay_pk (d : Dp) (w : World) (hw : d.wf) (hI : PkIn w) : Calls Tryz.prog 101 #[d.val] w fun e w' => e = .returned (.bool (dmayB d)) ∧ Below w.heap.size w w' := by
  have hn64 : (bs d.name).size ≤ maxLen := by rw [bs_size]; exact hw.1
  have NA := Lib.hid (fun W (h : Below w.heap.size w W) => dname_pk (bs d.name) W hn64 (hI.below h))
  have FA := Lib.hid (fun W (h : Below w.heap.size w W) => dfile_pk (bs d.name) W hn64 (hI.below h))
  have OA := Lib.hid (fun W (h : Below w.heap.size w W) => may_any d.op W (hI.1.below h))
  have EA := Lib.hid (fun W (h : Below w.heap.size w W) => evMay_any d.evr true W hw.2.2)
  rw [bs_toList] at NA FA
  have S0 := new_d1 d w
  dsimp only at S0
  obtain ⟨r, hr⟩ : ∃ r, r = dmayB d := ⟨_, rfl⟩
  rw [← hr]
  unfold dmayB at hr
  clear hI hw hn64
  cases h1 : nameB d.name with
  | false =>
    rw [h1] at NA hr
    obtain rfl : r = false := hr
    clear FA OA EA h1
    unfold Dp.val
    go_enter Tryz.func101, Tryz.ntmps101
    go_wp2_with fail
    go_at_call 113
    generalize (w.alloc (.cells #[.string (bs d.name), .int .u8 d.op, .int .i64 d.evr.epoch, .string (bs d.evr.ver), .string (bs d.evr.rel)] 37)) = W at *
    generalize hn : w.heap.size = n at *
    obtain ⟨c0_0, c0_1, c0_2, c0_3, c0_4, l0, hB⟩ := id S0
    refine (NA.out _ hB).mono ?_
    rintro e1 w1 ⟨rfl, h⟩
    have S1 := keep_d1 S0 h
    clear S0 h c0_0 c0_1 c0_2 c0_3 c0_4 l0 hB
    obtain ⟨c0_0, c0_1, c0_2, c0_3, c0_4, l0, hB⟩ := id S1
    go_wp2_with fail
    go_ret
    exact ⟨rfl, by rw [hn]; exact hB⟩
  | true =>
    rw [h1] at NA hr
    cases h2 : opMay d.op with
    | false =>
      rw [h2] at OA hr
      obtain rfl : r = false := hr
      clear FA EA h1 h2
      unfold Dp.val
      go_enter Tryz.func101, Tryz.ntmps101
      go_wp2_with fail
      go_at_call 113
      generalize (w.alloc (.cells #[.string (bs d.name), .int .u8 d.op, .int .i64 d.evr.epoch, .string (bs d.evr.ver), .string (bs d.evr.rel)] 37)) = W at *
      generalize hn : w.heap.size = n at *
      obtain ⟨c0_0, c0_1, c0_2, c0_3, c0_4, l0, hB⟩ := id S0
      refine (NA.out _ hB).mono ?_
      rintro e1 w1 ⟨rfl, h⟩
      have S1 := keep_d1 S0 h
      clear S0 h c0_0 c0_1 c0_2 c0_3 c0_4 l0 hB
      obtain ⟨c0_0, c0_1, c0_2, c0_3, c0_4, l0, hB⟩ := id S1
      go_wp2_with fail
      go_at_call 145
      refine (OA.out _ hB).mono ?_
      rintro e2 w2 ⟨rfl, h⟩
      have S2 := keep_d1 S1 h
      clear c0_0 c0_1 c0_2 c0_3 c0_4 l0 hB
      clear S1 h
      obtain ⟨c0_0, c0_1, c0_2, c0_3, c0_4, l0, hB⟩ := id S2
      go_wp2_with fail
      go_ret
      exact ⟨rfl, by rw [hn]; exact hB⟩
    | true =>
      rw [h2] at OA hr
      by_cases h3 : d.op = 0
      · rw [if_pos h3] at hr
        clear FA EA h1 h2
        have h4 : (d.op == 0) = true := by simpa using h3
        have HR := Lib.hid hr
        unfold isZero at HR
        clear hr h3
        have q1 : (bs d.evr.ver).toList = d.evr.ver := bs_toList _
        have q2 : (bs d.evr.rel).toList = d.evr.rel := bs_toList _
        unfold Dp.val
        go_enter Tryz.func101, Tryz.ntmps101
        go_wp2_with fail
        go_at_call 113
        generalize (w.alloc (.cells #[.string (bs d.name), .int .u8 d.op, .int .i64 d.evr.epoch, .string (bs d.evr.ver), .string (bs d.evr.rel)] 37)) = W at *
        generalize hn : w.heap.size = n at *
        obtain ⟨c0_0, c0_1, c0_2, c0_3, c0_4, l0, hB⟩ := id S0
        refine (NA.out _ hB).mono ?_
        rintro e1 w1 ⟨rfl, h⟩
        have S1 := keep_d1 S0 h
        clear S0 h c0_0 c0_1 c0_2 c0_3 c0_4 l0 hB
        obtain ⟨c0_0, c0_1, c0_2, c0_3, c0_4, l0, hB⟩ := id S1
        go_wp2_with fail
        go_at_call 145
        refine (OA.out _ hB).mono ?_
        rintro e2 w2 ⟨rfl, h⟩
        have S2 := keep_d1 S1 h
        clear c0_0 c0_1 c0_2 c0_3 c0_4 l0 hB
        clear S1 h
        obtain ⟨c0_0, c0_1, c0_2, c0_3, c0_4, l0, hB⟩ := id S2
        go_wp2_with fail
        all_goals
          go_ret
          exact ⟨ret_bool (by rw [HR.out]; simp [*]), by rw [hn]; exact hB⟩
      · rw [if_neg h3] at hr
        have h4 : (d.op == 0) = false := by simpa using h3
        cases h5 : fileB d.name with
        | true =>
          rw [h5] at FA hr
          obtain rfl : r = false := hr
          clear EA h1 h2 h5
          unfold Dp.val
          go_enter Tryz.func101, Tryz.ntmps101
          go_wp2_with fail
          go_at_call 113
          generalize (w.alloc (.cells #[.string (bs d.name), .int .u8 d.op, .int .i64 d.evr.epoch, .string (bs d.evr.ver), .string (bs d.evr.rel)] 37)) = W at *
          generalize hn : w.heap.size = n at *
          obtain ⟨c0_0, c0_1, c0_2, c0_3, c0_4, l0, hB⟩ := id S0
          refine (NA.out _ hB).mono ?_
          rintro e1 w1 ⟨rfl, h⟩
          have S1 := keep_d1 S0 h
          clear S0 h c0_0 c0_1 c0_2 c0_3 c0_4 l0 hB
          obtain ⟨c0_0, c0_1, c0_2, c0_3, c0_4, l0, hB⟩ := id S1
          go_wp2_with fail
          go_at_call 145
          refine (OA.out _ hB).mono ?_
          rintro e2 w2 ⟨rfl, h⟩
          have S2 := keep_d1 S1 h
          clear c0_0 c0_1 c0_2 c0_3 c0_4 l0 hB
          clear S1 h
          obtain ⟨c0_0, c0_1, c0_2, c0_3, c0_4, l0, hB⟩ := id S2
          go_wp2_with fail
          go_at_call 114
          refine (FA.out _ hB).mono ?_
          rintro e3 w3 ⟨rfl, h⟩
          have S3 := keep_d1 S2 h
          clear c0_0 c0_1 c0_2 c0_3 c0_4 l0 hB
          clear S2 h
          obtain ⟨c0_0, c0_1, c0_2, c0_3, c0_4, l0, hB⟩ := id S3
          go_wp2_with fail
          go_ret
          exact ⟨rfl, by rw [hn]; exact hB⟩
        | false =>
          rw [h5] at FA hr
          have hr2 : r = mayB d.evr true := hr
          rw [← hr2] at EA
          clear hr hr2 h1 h2 h5
          unfold Evr.val at EA
          unfold Dp.val
          go_enter Tryz.func101, Tryz.ntmps101
          go_wp2_with fail
          go_at_call 113
          generalize (w.alloc (.cells #[.string (bs d.name), .int .u8 d.op, .int .i64 d.evr.epoch, .string (bs d.evr.ver), .string (bs d.evr.rel)] 37)) = W at *
          generalize hn : w.heap.size = n at *
          obtain ⟨c0_0, c0_1, c0_2, c0_3, c0_4, l0, hB⟩ := id S0
          refine (NA.out _ hB).mono ?_
          rintro e1 w1 ⟨rfl, h⟩
          have S1 := keep_d1 S0 h
          clear S0 h c0_0 c0_1 c0_2 c0_3 c0_4 l0 hB
          obtain ⟨c0_0, c0_1, c0_2, c0_3, c0_4, l0, hB⟩ := id S1
          go_wp2_with fail
          go_at_call 145
          refine (OA.out _ hB).mono ?_
          rintro e2 w2 ⟨rfl, h⟩
          have S2 := keep_d1 S1 h
          clear c0_0 c0_1 c0_2 c0_3 c0_4 l0 hB
          clear S1 h
          obtain ⟨c0_0, c0_1, c0_2, c0_3, c0_4, l0, hB⟩ := id S2
          go_wp2_with fail
          go_at_call 114
          refine (FA.out _ hB).mono ?_
          rintro e3 w3 ⟨rfl, h⟩
          have S3 := keep_d1 S2 h
          clear c0_0 c0_1 c0_2 c0_3 c0_4 l0 hB
          clear S2 h
          obtain ⟨c0_0, c0_1, c0_2, c0_3, c0_4, l0, hB⟩ := id S3
          go_wp2_with fail
          go_at_call 115
          refine (EA.out _ hB).mono ?_
          rintro e4 w4 ⟨rfl, h⟩
          have S4 := keep_d1 S3 h
          clear c0_0 c0_1 c0_2 c0_3 c0_4 l0 hB
          clear S3 h
          obtain ⟨c0_0, c0_1, c0_2, c0_3, c0_4, l0, hB⟩ := id S4
          go_wp2_with fail
          go_ret
          exact ⟨rfl, by rw [hn]; exact hB⟩
end
end Go.Proofs.YteobmfpbgnmffaaGreatDoor
