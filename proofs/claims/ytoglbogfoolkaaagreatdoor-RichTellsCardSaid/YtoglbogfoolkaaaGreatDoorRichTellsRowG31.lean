/- RtPart -/
import Derived.Test.YtoglbogfoolkaaaGreatDoorRichTellsRowG30
import Derived.Deep.CutBlock
/- Walk: is a part whole, as the reference asks it (chandleryref08.part). -/


namespace Go.Proofs.YtoglbogfoolkaaaGreatDoor
open Go.RowKit Go.Shelf
set_option linter.unusedVariables false

set_option maxRecDepth 100000 in
set_option maxHeartbeats 16000000 in
theorem rtpart_any : ∀ (f : Nat) (t : RV) (w : World), t.ht ≤ f → RTree w.heap.size w t → Calls Tryz.prog 105 #[t.val] w fun e w' => e = .returned (.bool t.tree.okW) ∧ Below w.heap.size w w'
  | 0, t, w, hf, _ => absurd hf (by rw [ht_args]; omega)
  | f + 1, t, w, hf, h => by
    have IH := Lib.hid (fun x W h1 h2 => rtpart_any f x W h1 h2)
    have HA := Lib.hid h.rrow
    have HF := Lib.hid (show htL t.args ≤ f by rw [ht_args] at hf; omega)
    have hm := h.row.len
    have DM := Lib.hid (fun W => rdmay_any t.dep W h.wf)
    have hok := Lib.hid (show t.tree.okW = (if t.kind = 1 then (treeL t.args).isEmpty && dmayB t.dep else decide (2 ≤ t.kind ∧ t.kind ≤ 7) && (argsB t.kind t.args.length && (okWL (treeL t.args) && isZeroT t.dep))) by rw [tree_parts t, RT.okW, treeL_len])
    have hz := Lib.hid (show isZeroT t.dep = ((bs t.dep.name).toList.isEmpty && (t.dep.op == 0 && (t.dep.evr.epoch == 0 && ((bs t.dep.evr.ver).toList.isEmpty && (bs t.dep.evr.rel).toList.isEmpty)))) by unfold isZeroT isZero; rw [bs_toList, bs_toList, bs_toList])
    have hem := Lib.hid (show (treeL t.args).isEmpty = decide (t.args.length = 0) by rw [← treeL_len]; cases treeL t.args <;> simp)
    unfold RV.val
    unfold Dp.val at DM
    obtain ⟨ok, hokk⟩ : ∃ ok, ok = t.tree.okW := ⟨_, rfl⟩
    rw [← hokk] at hok ⊢
    obtain ⟨n, hnn⟩ : ∃ n, n = t.args.length := ⟨_, rfl⟩
    rw [← hnn] at hm hok hem ⊢
    have HN := Lib.hid hnn
    clear h hf hnn hokk
    generalize t.addr = aA at *
    generalize t.cap = ac at *
    generalize t.args = l at *
    generalize t.kind = q at *
    obtain ⟨dm, hdm⟩ : ∃ dm, dm = dmayB t.dep := ⟨_, rfl⟩
    rw [← hdm] at hok DM
    obtain ⟨iz, hiz⟩ : ∃ iz, iz = isZeroT t.dep := ⟨_, rfl⟩
    rw [← hiz] at hok hz
    clear hdm hiz
    generalize bs t.dep.name = s0 at *
    generalize bs t.dep.evr.ver = s1 at *
    generalize bs t.dep.evr.rel = s2 at *
    generalize t.dep.op = o0 at *
    generalize t.dep.evr.epoch = e0' at *
    obtain ⟨W1, hW1⟩ : ∃ W1, W1 = w.alloc (.cells #[.int .u8 q, .string s0, .int .u8 o0, .int .i64 e0', .string s1, .string s2, .slice aA n ac] 39) := ⟨_, rfl⟩
    have K := Lib.hid (show W1.cell? ⟨w.heap.size, 0, none⟩ = some (.int .u8 q) ∧ W1.cell? ⟨w.heap.size, 1, none⟩ = some (.string s0) ∧ W1.cell? ⟨w.heap.size, 2, none⟩ = some (.int .u8 o0) ∧ W1.cell? ⟨w.heap.size, 3, none⟩ = some (.int .i64 e0') ∧ W1.cell? ⟨w.heap.size, 4, none⟩ = some (.string s1) ∧ W1.cell? ⟨w.heap.size, 5, none⟩ = some (.string s2) ∧ W1.cell? ⟨w.heap.size, 6, none⟩ = some (.slice aA n ac) by
      rw [hW1]; exact ⟨(World.cell?_alloc_at _ _ _ _ rfl).trans rfl, (World.cell?_alloc_at _ _ _ _ rfl).trans rfl, (World.cell?_alloc_at _ _ _ _ rfl).trans rfl, (World.cell?_alloc_at _ _ _ _ rfl).trans rfl, (World.cell?_alloc_at _ _ _ _ rfl).trans rfl, (World.cell?_alloc_at _ _ _ _ rfl).trans rfl, (World.cell?_alloc_at _ _ _ _ rfl).trans rfl⟩)
    have HB1 := Lib.hid (show Below w.heap.size w W1 by rw [hW1]; exact (Below.refl _ _).alloc (Nat.le_refl _) _)
    have Z1 := Lib.hid (show W1.heap.size = w.heap.size + 1 by rw [hW1]; simp)
    have HW1 := Lib.hid hW1
    clear hW1
    by_cases hk : q = 1
    · subst hk
      have HOK := Lib.hid (show ok = (decide (n = 0) && dm) by rw [hok.out, if_pos rfl, hem.out])
      clear hok hz hem IH HA HF
      cases dm
      · go_enter Tryz.func105, Tryz.ntmps105
        go_wp2_with fail
        go_at_call 163
        refine (DM.out _).mono ?_
        rintro e w2 ⟨rfl, hb⟩
        have HB2 := Lib.hid (((Below.refl w.heap.size w).alloc (Nat.le_refl _) _).trans (hb.mono (by simp)))
        clear hb
        go_wp2
        go_ret
        exact ⟨ret_bool (by rw [HOK.out]; simp), HB2.out⟩
      · have g6 : (w.alloc (.cells #[.int .u8 1, .string s0, .int .u8 o0, .int .i64 e0', .string s1, .string s2, .slice aA n ac] 39)).cell? ⟨w.heap.size, 6, none⟩ = some (.slice aA n ac) := (World.cell?_alloc_at _ _ _ _ rfl).trans rfl
        go_enter Tryz.func105, Tryz.ntmps105
        go_wp2_with fail
        go_at_call 163
        refine (DM.out _).mono ?_
        rintro e w2 ⟨rfl, hb⟩
        have HB2 := Lib.hid (((Below.refl w.heap.size w).alloc (Nat.le_refl _) _).trans (hb.mono (by simp)))
        have f6 : w2.cell? ⟨w.heap.size, 6, none⟩ = some (.slice aA n ac) := (hb.cell (p := ⟨w.heap.size, 6, none⟩) (by simp)).trans g6
        clear hb g6
        by_cases hn : n = 0
        · subst hn
          go_wp2
          go_ret
          exact ⟨ret_bool (by rw [HOK.out]; simp), HB2.out⟩
        · have hn2 : ((n : Int) == 0) = false := by simp only [beq_eq_false_iff_ne]; omega
          go_wp2
          go_ret
          exact ⟨ret_bool (by rw [HOK.out, decide_eq_false hn]; simp), HB2.out⟩
    · have HOK := Lib.hid (show ok = (decide (2 ≤ q ∧ q ≤ 7) && (argsB q n && (okWL (treeL l) && iz))) by rw [hok.out, if_neg hk])
      clear hok hem DM
      have hk1 : (q == 1) = false := by simpa using hk
      have HM0 := Lib.hid hm
      have HK1 := Lib.hid hk
      clear hk hm
      go_enter Tryz.func105, Tryz.ntmps105
      go_upto_block 0 with fail
      rw [← HW1.out]
      go_cut [2] from 22 (fun s W => s = .bool false ∧ W1 = W ∧ Hid ((2 ≤ q ∧ q ≤ 7) ∧ argsB q n = true))
      case first =>
        by_cases hq : 2 ≤ q ∧ q ≤ 7
        · obtain rfl | rfl | rfl | rfl | rfl | rfl : q = 2 ∨ q = 3 ∨ q = 6 ∨ q = 4 ∨ q = 5 ∨ q = 7 := by omega
          · have HAR := Lib.hid (show argsB 2 n = decide (2 ≤ n) by unfold argsB; simp)
            by_cases hc0 : 2 ≤ n
            · have HAT := Lib.hid (show (2 ≤ (2 : Int) ∧ (2 : Int) ≤ 7) ∧ argsB 2 n = true from ⟨by omega, by rw [HAR.out]; exact decide_eq_true hc0⟩)
              have hn2 : ¬ (n : Int) < 2 := by omega
              clear hc0 hq HAR
              go_wp2_with fail
              go_meet
              case rel => exact ⟨rfl, rfl, HAT⟩
            · have HAT := Lib.hid (show argsB 2 n = false by rw [HAR.out]; exact decide_eq_false hc0)
              have hn2 : (n : Int) < 2 := by omega
              clear hc0 hq HAR
              go_wp2_with fail
              go_ret
              exact ⟨ret_bool (by rw [HOK.out, HAT.out]; simp), HB1.out⟩
          · have HAR := Lib.hid (show argsB 3 n = decide (2 ≤ n) by unfold argsB; simp)
            by_cases hc0 : 2 ≤ n
            · have HAT := Lib.hid (show (2 ≤ (3 : Int) ∧ (3 : Int) ≤ 7) ∧ argsB 3 n = true from ⟨by omega, by rw [HAR.out]; exact decide_eq_true hc0⟩)
              have hn2 : ¬ (n : Int) < 2 := by omega
              clear hc0 hq HAR
              go_wp2_with fail
              go_meet
              case rel => exact ⟨rfl, rfl, HAT⟩
            · have HAT := Lib.hid (show argsB 3 n = false by rw [HAR.out]; exact decide_eq_false hc0)
              have hn2 : (n : Int) < 2 := by omega
              clear hc0 hq HAR
              go_wp2_with fail
              go_ret
              exact ⟨ret_bool (by rw [HOK.out, HAT.out]; simp), HB1.out⟩
          · have HAR := Lib.hid (show argsB 6 n = decide (2 ≤ n) by unfold argsB; simp)
            by_cases hc0 : 2 ≤ n
            · have HAT := Lib.hid (show (2 ≤ (6 : Int) ∧ (6 : Int) ≤ 7) ∧ argsB 6 n = true from ⟨by omega, by rw [HAR.out]; exact decide_eq_true hc0⟩)
              have hn2 : ¬ (n : Int) < 2 := by omega
              clear hc0 hq HAR
              go_wp2_with fail
              go_meet
              case rel => exact ⟨rfl, rfl, HAT⟩
            · have HAT := Lib.hid (show argsB 6 n = false by rw [HAR.out]; exact decide_eq_false hc0)
              have hn2 : (n : Int) < 2 := by omega
              clear hc0 hq HAR
              go_wp2_with fail
              go_ret
              exact ⟨ret_bool (by rw [HOK.out, HAT.out]; simp), HB1.out⟩
          · have HAR := Lib.hid (show argsB 4 n = decide (n = 2 ∨ n = 3) by unfold argsB; simp)
            by_cases hc0 : n = 2 ∨ n = 3
            · have HAT := Lib.hid (show (2 ≤ (4 : Int) ∧ (4 : Int) ≤ 7) ∧ argsB 4 n = true from ⟨by omega, by rw [HAR.out]; exact decide_eq_true hc0⟩)
              rcases hc0 with hc0 | hc0
              · have hn2 : ((n : Int) != 2) = false := by simp [hc0]
                have hn3 : ((n : Int) != 3) = true := by simp [hc0]
                clear hc0 hq HAR
                go_wp2_with fail
                go_meet
                case rel => exact ⟨rfl, rfl, HAT⟩
              · have hn2 : ((n : Int) != 2) = true := by simp [hc0]
                have hn3 : ((n : Int) != 3) = false := by simp [hc0]
                clear hc0 hq HAR
                go_wp2_with fail
                go_meet
                case rel => exact ⟨rfl, rfl, HAT⟩
            · have HAT := Lib.hid (show argsB 4 n = false by rw [HAR.out]; exact decide_eq_false hc0)
              have hn2 : ((n : Int) != 2) = true := by simp only [bne_iff_ne]; omega
              have hn3 : ((n : Int) != 3) = true := by simp only [bne_iff_ne]; omega
              clear hc0 hq HAR
              go_wp2_with fail
              go_ret
              exact ⟨ret_bool (by rw [HOK.out, HAT.out]; simp), HB1.out⟩
          · have HAR := Lib.hid (show argsB 5 n = decide (n = 2 ∨ n = 3) by unfold argsB; simp)
            by_cases hc0 : n = 2 ∨ n = 3
            · have HAT := Lib.hid (show (2 ≤ (5 : Int) ∧ (5 : Int) ≤ 7) ∧ argsB 5 n = true from ⟨by omega, by rw [HAR.out]; exact decide_eq_true hc0⟩)
              rcases hc0 with hc0 | hc0
              · have hn2 : ((n : Int) != 2) = false := by simp [hc0]
                have hn3 : ((n : Int) != 3) = true := by simp [hc0]
                clear hc0 hq HAR
                go_wp2_with fail
                go_meet
                case rel => exact ⟨rfl, rfl, HAT⟩
              · have hn2 : ((n : Int) != 2) = true := by simp [hc0]
                have hn3 : ((n : Int) != 3) = false := by simp [hc0]
                clear hc0 hq HAR
                go_wp2_with fail
                go_meet
                case rel => exact ⟨rfl, rfl, HAT⟩
            · have HAT := Lib.hid (show argsB 5 n = false by rw [HAR.out]; exact decide_eq_false hc0)
              have hn2 : ((n : Int) != 2) = true := by simp only [bne_iff_ne]; omega
              have hn3 : ((n : Int) != 3) = true := by simp only [bne_iff_ne]; omega
              clear hc0 hq HAR
              go_wp2_with fail
              go_ret
              exact ⟨ret_bool (by rw [HOK.out, HAT.out]; simp), HB1.out⟩
          · have HAR := Lib.hid (show argsB 7 n = decide (n = 2) by unfold argsB; simp)
            by_cases hc0 : n = 2
            · have HAT := Lib.hid (show (2 ≤ (7 : Int) ∧ (7 : Int) ≤ 7) ∧ argsB 7 n = true from ⟨by omega, by rw [HAR.out]; exact decide_eq_true hc0⟩)
              have hn2 : ((n : Int) != 2) = false := by simp [hc0]
              clear hc0 hq HAR
              go_wp2_with fail
              go_meet
              case rel => exact ⟨rfl, rfl, HAT⟩
            · have HAT := Lib.hid (show argsB 7 n = false by rw [HAR.out]; exact decide_eq_false hc0)
              have hn2 : ((n : Int) != 2) = true := by simp only [bne_iff_ne]; omega
              clear hc0 hq HAR
              go_wp2_with fail
              go_ret
              exact ⟨ret_bool (by rw [HOK.out, HAT.out]; simp), HB1.out⟩
        · have HQ := Lib.hid (show decide (2 ≤ q ∧ q ≤ 7) = false from decide_eq_false hq)
          have b2 : (q == 2) = false := by simp only [beq_eq_false_iff_ne]; omega
          have b3 : (q == 3) = false := by simp only [beq_eq_false_iff_ne]; omega
          have b4 : (q == 4) = false := by simp only [beq_eq_false_iff_ne]; omega
          have b5 : (q == 5) = false := by simp only [beq_eq_false_iff_ne]; omega
          have b6 : (q == 6) = false := by simp only [beq_eq_false_iff_ne]; omega
          have b7 : (q == 7) = false := by simp only [beq_eq_false_iff_ne]; omega
          clear hq
          go_wp2_with fail
          go_ret
          exact ⟨ret_bool (by rw [HOK.out, HQ.out]; simp), HB1.out⟩
      case rest =>
        obtain ⟨rfl, rfl, HQA⟩ := hcut
        have hm := HM0.out
        go_wp2_with fail
        skip
        go_loopw [4] (fun iv wr => ∃ k : Nat, k ≤ n ∧ iv = .int .i64 (k : Int) ∧ Hid (okWL ((treeL l).take k) = true) ∧ Below (w.heap.size + 1) W1 wr) (fun iv _ => n - (intOf iv).toNat)
        case atStart => exact ⟨0, by omega, rfl, Lib.hid (by simp [okWL]), Below.refl _ _⟩
        case round =>
          obtain ⟨k, hk2, rfl, HOW, hB⟩ := hrel
          rename World => wr
          have HBW := Lib.hid (HB1.out.trans (hB.mono (by omega)))
          have HBR := Lib.hid hB
          have hz1 : w.heap.size + 1 ≤ wr.heap.size := by have := hB.size; have := Z1.out; omega
          have hc : ∀ j : Nat, wr.cell? ⟨w.heap.size, j, none⟩ = W1.cell? ⟨w.heap.size, j, none⟩ := fun j => hB.cell (p := ⟨w.heap.size, j, none⟩) (by show w.heap.size < w.heap.size + 1; omega)
          obtain ⟨k0, k1, k2, k3, k4, k5, k6⟩ := K.out
          by_cases hlt : k < n
          · have hkl : k < l.length := by have := HN.out; omega
            have q6 : wr.cell? ⟨w.heap.size, 6, none⟩ = some (.slice aA n ac) := (hc 6).trans k6
            have RR := HA.out.below HBW.out
            obtain ⟨b, o, rfl, hb, c0, c1, c2, c3, c4, c5, c6⟩ := RR.at_ hkl
            have TA := (RR.2 _ (List.getElem_mem hkl)).more HBW.out.size
            have hkt : k < (treeL l).length := by rw [treeL_len]; exact hkl
            have g1 := okWL_take hkt
            rw [treeL_get l k hkl] at g1
            have hht := Nat.le_trans (ht_mem (List.getElem_mem hkl)) HF.out
            have hc2 := IH.out l[k] wr hht TA
            unfold RV.val at hc2
            have HC := Lib.hid hc2
            have G1 := Lib.hid g1
            have i0 : (0 : Int) ≤ (k : Int) := by omega
            have i1 : (k : Int) < (n : Int) := by omega
            clear hc2 TA RR g1 hht hB hc k0 k1 k2 k3 k4 k5 k6
            generalize l[k] = a at *
            obtain ⟨r, hr⟩ : ∃ r, r = a.tree.okW := ⟨_, rfl⟩
            rw [← hr] at HC G1
            clear hkt hkl hr
            cases r
            · go_wp2_with fail
              go_at_call 105
              refine HC.out.mono ?_
              rintro e w2 ⟨rfl, hb2⟩
              have HB2 := Lib.hid (HBW.out.trans (hb2.mono HBW.out.size))
              clear hb2 HC
              go_wp2_with fail
              go_ret
              exact ⟨ret_bool (by rw [HOK.out, okWL_no (l := treeL l) (k := k + 1) (by rw [G1.out]; simp)]; simp), HB2.out⟩
            · go_wp2_with fail
              go_at_call 105
              refine HC.out.mono ?_
              rintro e w2 ⟨rfl, hb2⟩
              have HB2 := Lib.hid (HBR.out.trans (hb2.mono hz1))
              clear hb2 HC
              go_wp2_with fail
              go_roundw
              case rel => exact ⟨k + 1, by omega, by go_num, Lib.hid (by rw [G1.out, HOW.out]; rfl), HB2.out⟩
              case measure => simp [intOf]; omega
          · have i1 : ¬ (k : Int) < (n : Int) := by omega
            have hfull : okWL (treeL l) = true := by have := HOW.out; rwa [List.take_of_length_le (by rw [treeL_len]; have := HN.out; omega)] at this
            have HFL := Lib.hid hfull
            have q6 : wr.cell? ⟨w.heap.size, 6, none⟩ = some (.slice aA n ac) := (hc 6).trans k6
            have q1 : wr.cell? ⟨w.heap.size, 1, none⟩ = some (.string s0) := (hc 1).trans k1
            have q2 : wr.cell? ⟨w.heap.size, 2, none⟩ = some (.int .u8 o0) := (hc 2).trans k2
            have q3 : wr.cell? ⟨w.heap.size, 3, none⟩ = some (.int .i64 e0') := (hc 3).trans k3
            have q4 : wr.cell? ⟨w.heap.size, 4, none⟩ = some (.string s1) := (hc 4).trans k4
            have q5 : wr.cell? ⟨w.heap.size, 5, none⟩ = some (.string s2) := (hc 5).trans k5
            clear hfull hB hc k0 k1 k2 k3 k4 k5 k6 HOW
            cases iz
            · go_wp2_with fail
              all_goals
                first
                  | (go_ret; refine ⟨ret_bool ?_, HBW.out⟩; rw [HOK.out]; simp; done)
                  | (exfalso; have h := hz.out; rw [eq_comm, Bool.eq_false_iff] at h; apply h; simp only [Bool.and_eq_true, List.isEmpty_iff, beq_iff_eq]; exact ⟨by assumption, by assumption, by assumption, by assumption, by assumption⟩)
            · have h := hz.out.symm
              simp only [Bool.and_eq_true, List.isEmpty_iff, beq_iff_eq] at h
              obtain ⟨z1, z2, z3, z4, z5⟩ := h
              go_wp2_with fail
              go_ret
              exact ⟨ret_bool (by rw [HOK.out, HFL.out, HQA.out.2, decide_eq_true HQA.out.1]; simp), HBW.out⟩

end Go.Proofs.YtoglbogfoolkaaaGreatDoor
