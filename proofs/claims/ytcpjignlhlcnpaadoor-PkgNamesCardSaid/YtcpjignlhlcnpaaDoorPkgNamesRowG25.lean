/- ShDepth -/
import Derived.Test.YtcpjignlhlcnpaaDoorPkgNamesRowG23
import Derived.Test.YtcpjignlhlcnpaaDoorPkgNamesRowG24
set_option linter.unusedSimpArgs false
set_option linter.unusedVariables false
/- Walk: how deep a rich dependency is (shape.Depth). -/


namespace Go.Proofs.YtcpjignlhlcnpaaDoor
open Go.RowKit Go.Shelf
set_option linter.unusedVariables false

theorem deep_eq {t : RV} (h : t.kind ≠ 1) : t.tree.deep = deepL (treeL t.args) + 1 := by rw [tree_parts t, RT.deep, if_neg h]
set_option maxRecDepth 100000 in
set_option maxHeartbeats 16000000 in
theorem shdepth_any : ∀ (f : Nat) (t : RV) (w : World), t.ht ≤ f → t.tree.parts ≤ 1000000 → RTree w.heap.size w t → Calls Tryd.prog 40 #[t.val] w fun e w' => e = .returned (.int .i64 (t.tree.deep : Int)) ∧ Below w.heap.size w w'
  | 0, t, w, hf, _, _ => absurd hf (by rw [ht_args]; omega)
  | f + 1, t, w, hf, hp, ha => by
    have IH := Lib.hid (fun x W h1 h2 h3 => shdepth_any f x W h1 h2 h3)
    have HA := Lib.hid ha.rrow
    have HF := Lib.hid (show htL t.args ≤ f by rw [ht_args] at hf; omega)
    have HP := Lib.hid (show 1 + partsL (treeL t.args) ≤ 1000000 by rw [tree_parts t, RT.parts] at hp; exact hp)
    have HD1 := Lib.hid (show t.kind = 1 → t.tree.deep = 0 from fun h => by rw [tree_parts t, RT.deep, if_pos h])
    have HD2 := Lib.hid (show t.kind ≠ 1 → t.tree.deep = deepL (treeL t.args) + 1 from fun h => deep_eq h)
    have HDP := Lib.hid (Nat.le_trans (deep_parts t.tree) hp)
    have hm := ha.row.len
    have B0 := Lib.hid (BX.new ha)
    unfold RV.val
    clear ha hf hp
    by_cases k1 : t.kind = 1
    · have HE := Lib.hid (HD1.out k1)
      have kb : (t.kind == 1) = true := by simpa using k1
      clear k1 HD1 HD2 IH HA
      go_enter Tryd.func40, Tryd.ntmps40
      go_wp2_with fail
      go_ret
      exact ⟨by rw [HE.out]; rfl, (Below.refl _ _).alloc (Nat.le_refl _) _⟩
    have HE := Lib.hid (HD2.out k1)
    have kb : (t.kind == 1) = false := by simpa using k1
    clear k1 HD1 HD2
    go_enter Tryd.func40, Tryd.ntmps40
    go_wp2_with fail
    go_loopw [3, 12] (fun cv iv wr => ∃ (i c : Nat), i ≤ t.args.length ∧ iv = .int .i64 (i : Int) ∧ cv = .int .i64 (c : Int) ∧ c = deepL ((treeL t.args).take i) ∧ Below w.heap.size w wr ∧ BX t w.heap.size wr) (fun _ iv _ => t.args.length - (intOf iv).toNat)
    case atStart => exact ⟨0, 0, Nat.zero_le _, rfl, rfl, by simp [deepL], (Below.refl _ _).alloc (Nat.le_refl _) _, B0.out⟩
    case round =>
      obtain ⟨i, c, hi, rfl, rfl, hc, hB, hX⟩ := hrel
      rename World => wr
      have B := Lib.hid hB
      have X := Lib.hid hX
      have HC := Lib.hid hc
      clear hB hX hc B0
      by_cases hlt : i < t.args.length
      · have TA := ((HA.out.below B.out).2 _ (List.getElem_mem hlt)).more B.out.size
        have hht := Nat.le_trans (ht_mem (List.getElem_mem hlt)) HF.out
        have hkt : i < (treeL t.args).length := by rw [treeL_len]; exact hlt
        have hpp := partsL_get (l := treeL t.args) hkt
        have hd2 := deepL_take hkt
        rw [treeL_get t.args i hlt] at hpp hd2
        have NC := Lib.hid (fun o => IH.out t.args[i] (wr.alloc o) hht (by have := HP.out; omega) ((TA.keeps ((Below.refl _ _).alloc (Nat.le_refl _) o)).more (by simp)))
        have HC2 := Lib.hid (show max c t.args[i].tree.deep = deepL ((treeL t.args).take (i + 1)) by rw [hd2, HC.out])
        obtain ⟨b, o, hadr, hb, e0, e1, e2, e3, e4, e5, e6⟩ := (HA.out.below B.out).at_ hlt
        rw [hadr]
        have i0 : (0 : Int) ≤ (i : Int) := by omega
        have i1 : (i : Int) < (t.args.length : Int) := by omega
        unfold RV.val at NC
        clear TA hht hkt hpp hd2 IH hadr
        generalize t.args[i] = x at *
        generalize x.tree.deep = dx at *
        generalize t.args.length = n at *
        go_wp2_with fail
        go_at_call 40
        refine (NC.out _).mono ?_
        rintro e w2 ⟨rfl, hb2⟩
        have B2 := Lib.hid ((B.out.alloc B.out.size _).trans (hb2.mono (Nat.le_trans B.out.size (by simp))))
        have X2 := Lib.hid ((X.out.alloc _).then hb2)
        clear hb2 NC e0 e1 e2 e3 e4 e5 e6
        go_wp2_with fail
        go_roundw
        case rel => exact ⟨i + 1, max c dx, by omega, by go_num, val_int (by omega), HC2.out, B2.out, X2.out⟩
        case measure => simp [intOf]; omega
      · obtain rfl : i = t.args.length := by omega
        have HE2 := Lib.hid (show (c : Int) + 1 = (t.tree.deep : Int) by rw [HE.out, HC.out, List.take_of_length_le (by rw [treeL_len]; exact Nat.le_refl _)]; omega)
        have hcb : (c : Int) ≤ 1000000 := by have h1 := HE2.out; have h2 := HDP.out; omega
        have i1 : ¬ (t.args.length : Int) < (t.args.length : Int) := by omega
        clear hlt IH HC
        go_wp2_with fail
        go_ret
        exact ⟨congrArg (fun z => Ending.returned (.int .i64 z)) HE2.out, B.out⟩
end Go.Proofs.YtcpjignlhlcnpaaDoor
