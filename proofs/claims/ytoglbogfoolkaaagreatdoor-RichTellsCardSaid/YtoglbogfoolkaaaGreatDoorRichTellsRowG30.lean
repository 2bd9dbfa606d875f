/- RtMeas -/
import Derived.Test.YtoglbogfoolkaaaGreatDoorRichTellsRowG27
import Derived.Test.YtoglbogfoolkaaaGreatDoorRichTellsRowG29
/- Walks: of how many parts a rich dependency is, how deep it is (chandleryref08.parts, deep). -/



namespace Go.Proofs.YtoglbogfoolkaaaGreatDoor
open Go.RowKit Go.Shelf
set_option linter.unusedVariables false

set_option maxRecDepth 100000 in
set_option maxHeartbeats 16000000 in
theorem rtparts_any : ∀ (f : Nat) (t : RV) (w : World), t.ht ≤ f → t.tree.parts ≤ 1000000 → RTree w.heap.size w t → Calls Tryz.prog 106 #[t.val] w fun e w' => e = .returned (.int .i64 (t.tree.parts : Int)) ∧ Below w.heap.size w w'
  | 0, t, w, hf, _, _ => absurd hf (by rw [ht_args]; omega)
  | f + 1, t, w, hf, hp, h => by
    have IH := Lib.hid (fun x W h1 h2 h3 => rtparts_any f x W h1 h2 h3)
    have HA := Lib.hid h.rrow
    have HF := Lib.hid (show htL t.args ≤ f by rw [ht_args] at hf; omega)
    have hm := h.row.len
    have hpa := Lib.hid (show t.tree.parts = 1 + partsL (treeL t.args) by rw [tree_parts t, RT.parts])
    have HP := Lib.hid (show 1 + partsL (treeL t.args) ≤ 1000000 by rw [tree_parts t, RT.parts] at hp; exact hp)
    rw [hpa.out]
    unfold RV.val
    obtain ⟨n, hnn⟩ : ∃ n, n = t.args.length := ⟨_, rfl⟩
    rw [← hnn] at hm ⊢
    have HN := Lib.hid hnn
    clear h hf hp hnn hpa
    generalize t.addr = aA at *
    generalize t.cap = ac at *
    generalize t.args = l at *
    generalize bs t.dep.name = s0 at *
    generalize bs t.dep.evr.ver = s1 at *
    generalize bs t.dep.evr.rel = s2 at *
    obtain ⟨W1, hW1⟩ : ∃ W1, W1 = w.alloc (.cells #[.int .u8 t.kind, .string s0, .int .u8 t.dep.op, .int .i64 t.dep.evr.epoch, .string s1, .string s2, .slice aA n ac] 39) := ⟨_, rfl⟩
    have HC6 := Lib.hid (show W1.cell? ⟨w.heap.size, 6, none⟩ = some (.slice aA n ac) by rw [hW1]; exact (World.cell?_alloc_at _ _ _ _ rfl).trans rfl)
    have HB1 := Lib.hid (show Below w.heap.size w W1 by rw [hW1]; exact (Below.refl _ _).alloc (Nat.le_refl _) _)
    have Z1 := Lib.hid (show W1.heap.size = w.heap.size + 1 by rw [hW1]; simp)
    have HW1 := Lib.hid hW1
    clear hW1
    go_enter Tryz.func106, Tryz.ntmps106
    go_wp2_with fail
    go_loopw [3, 4] (fun m i wr => ∃ k : Nat, k ≤ n ∧ i = .int .i64 (k : Int) ∧ m = .int .i64 ((1 + partsL ((treeL l).take k) : Nat) : Int) ∧ Below (w.heap.size + 1) W1 wr) (fun _ i _ => n - (intOf i).toNat)
    case atStart => exact ⟨0, by omega, rfl, by simp [partsL], by rw [HW1.out]; exact Below.refl _ _⟩
    case round =>
      obtain ⟨k, hk, rfl, rfl, hB⟩ := hrel
      rename World => wr
      have q6 : wr.cell? ⟨w.heap.size, 6, none⟩ = some (.slice aA n ac) := (hB.cell (p := ⟨w.heap.size, 6, none⟩) (by show w.heap.size < w.heap.size + 1; omega)).trans HC6.out
      have HBW := Lib.hid (HB1.out.trans (hB.mono (by omega)))
      have HBR := Lib.hid hB
      have hz1 : w.heap.size + 1 ≤ wr.heap.size := by have := hB.size; have := Z1.out; omega
      have hpm := partsL_mono (treeL l) k
      have hp2 := HP.out
      clear hB
      by_cases hlt : k < n
      · have hkl : k < l.length := by have := HN.out; omega
        have RR := HA.out.below HBW.out
        obtain ⟨b, o, rfl, hb, c0, c1, c2, c3, c4, c5, c6⟩ := RR.at_ hkl
        have TA := (RR.2 _ (List.getElem_mem hkl)).more HBW.out.size
        have hkt : k < (treeL l).length := by rw [treeL_len]; exact hkl
        have g1 := partsL_take2 hkt
        have hpm2 := partsL_mono (treeL l) (k + 1)
        rw [treeL_get l k hkl] at g1
        have hht := Nat.le_trans (ht_mem (List.getElem_mem hkl)) HF.out
        have hc2 := IH.out l[k] wr hht (by omega) TA
        unfold RV.val at hc2
        have HC := Lib.hid hc2
        have G1 := Lib.hid g1
        have hq : l[k].tree.parts ≤ 1000000 := by omega
        have i0 : (0 : Int) ≤ (k : Int) := by omega
        have i1 : (k : Int) < (n : Int) := by omega
        obtain ⟨c, hcc⟩ : ∃ c, c = 1 + partsL ((treeL l).take k) := ⟨_, rfl⟩
        rw [← hcc]
        have hcm : c ≤ 1000000 := by omega
        have HCC := Lib.hid hcc
        clear hc2 TA RR g1 hht hpm hpm2 hp2 hcc
        generalize l[k] = a at *
        obtain ⟨p, hpp⟩ : ∃ p, p = a.tree.parts := ⟨_, rfl⟩
        rw [← hpp] at HC hq G1
        clear hkt hkl hpp
        go_wp2_with fail
        go_at_call 106
        refine HC.out.mono ?_
        rintro e w2 ⟨rfl, hb2⟩
        have HB2 := Lib.hid (HBR.out.trans (hb2.mono hz1))
        clear hb2 HC
        go_wp2_with fail
        go_roundw
        case rel => exact ⟨k + 1, by omega, by go_num, by rw [G1.out, ← Nat.add_assoc, ← HCC.out]; go_num, HB2.out⟩
        case measure => simp [intOf]; omega
      · have i1 : ¬ (k : Int) < (n : Int) := by omega
        obtain rfl : k = n := by omega
        have hfull : (treeL l).take k = treeL l := List.take_of_length_le (by rw [treeL_len]; have := HN.out; omega)
        rw [hfull]
        clear hfull
        go_wp2_with fail
        go_ret
        exact ⟨rfl, HBW.out⟩
set_option maxRecDepth 100000 in
set_option maxHeartbeats 16000000 in
theorem rtdeep_any : ∀ (f : Nat) (t : RV) (w : World), t.ht ≤ f → t.tree.parts ≤ 1000000 → RTree w.heap.size w t → Calls Tryz.prog 107 #[t.val] w fun e w' => e = .returned (.int .i64 (t.tree.deep : Int)) ∧ Below w.heap.size w w'
  | 0, t, w, hf, _, _ => absurd hf (by rw [ht_args]; omega)
  | f + 1, t, w, hf, hp, h => by
    have IH := Lib.hid (fun x W h1 h2 h3 => rtdeep_any f x W h1 h2 h3)
    have HA := Lib.hid h.rrow
    have HF := Lib.hid (show htL t.args ≤ f by rw [ht_args] at hf; omega)
    have hm := h.row.len
    have HP := Lib.hid (show 1 + partsL (treeL t.args) ≤ 1000000 by rw [tree_parts t, RT.parts] at hp; exact hp)
    by_cases hk : t.kind = 1
    · have hd : t.tree.deep = 0 := by rw [tree_parts t, RT.deep, if_pos hk]
      rw [hd]
      unfold RV.val
      rw [hk]
      clear h hd hk hf hp IH HA HF HP
      generalize t.args.length = m at *
      go_enter Tryz.func107, Tryz.ntmps107
      go_wp2_with fail
      go_ret
      exact ⟨rfl, (Below.refl _ _).alloc (Nat.le_refl _) _⟩
    have hk1 : (t.kind == 1) = false := by simp only [beq_eq_false_iff_ne]; exact hk
    have hd : t.tree.deep = deepL (treeL t.args) + 1 := by rw [tree_parts t, RT.deep, if_neg hk]
    have hdp := deep_parts.deepL_parts (treeL t.args)
    have HDP := Lib.hid hdp
    rw [hd]
    unfold RV.val
    obtain ⟨n, hnn⟩ : ∃ n, n = t.args.length := ⟨_, rfl⟩
    rw [← hnn] at hm ⊢
    have HN := Lib.hid hnn
    clear h hf hp hnn hk hd hdp
    generalize t.addr = aA at *
    generalize t.cap = ac at *
    generalize t.args = l at *
    generalize t.kind = kd at *
    generalize bs t.dep.name = s0 at *
    generalize bs t.dep.evr.ver = s1 at *
    generalize bs t.dep.evr.rel = s2 at *
    obtain ⟨W1, hW1⟩ : ∃ W1, W1 = w.alloc (.cells #[.int .u8 kd, .string s0, .int .u8 t.dep.op, .int .i64 t.dep.evr.epoch, .string s1, .string s2, .slice aA n ac] 39) := ⟨_, rfl⟩
    have HC6 := Lib.hid (show W1.cell? ⟨w.heap.size, 6, none⟩ = some (.slice aA n ac) by rw [hW1]; exact (World.cell?_alloc_at _ _ _ _ rfl).trans rfl)
    have HB1 := Lib.hid (show Below w.heap.size w W1 by rw [hW1]; exact (Below.refl _ _).alloc (Nat.le_refl _) _)
    have Z1 := Lib.hid (show W1.heap.size = w.heap.size + 1 by rw [hW1]; simp)
    have HW1 := Lib.hid hW1
    clear hW1
    go_enter Tryz.func107, Tryz.ntmps107
    go_wp2_with fail
    go_loopw [3, 4] (fun m i wr => ∃ k : Nat, k ≤ n ∧ i = .int .i64 (k : Int) ∧ m = .int .i64 ((deepL ((treeL l).take k) : Nat) : Int) ∧ Below (w.heap.size + 1) W1 wr) (fun _ i _ => n - (intOf i).toNat)
    case atStart => exact ⟨0, by omega, rfl, by simp [deepL], by rw [HW1.out]; exact Below.refl _ _⟩
    case round =>
      obtain ⟨k, hk, rfl, rfl, hB⟩ := hrel
      rename World => wr
      have q6 : wr.cell? ⟨w.heap.size, 6, none⟩ = some (.slice aA n ac) := (hB.cell (p := ⟨w.heap.size, 6, none⟩) (by show w.heap.size < w.heap.size + 1; omega)).trans HC6.out
      have HBW := Lib.hid (HB1.out.trans (hB.mono (by omega)))
      have HBR := Lib.hid hB
      have hz1 : w.heap.size + 1 ≤ wr.heap.size := by have := hB.size; have := Z1.out; omega
      have hpm := partsL_mono (treeL l) k
      have hp2 := HP.out
      have hdm := deep_parts.deepL_parts ((treeL l).take k)
      clear hB
      by_cases hlt : k < n
      · have hkl : k < l.length := by have := HN.out; omega
        have RR := HA.out.below HBW.out
        obtain ⟨b, o, rfl, hb, c0, c1, c2, c3, c4, c5, c6⟩ := RR.at_ hkl
        have TA := (RR.2 _ (List.getElem_mem hkl)).more HBW.out.size
        have hkt : k < (treeL l).length := by rw [treeL_len]; exact hkl
        have g1 := deepL_take hkt
        have g2 := partsL_take2 hkt
        have hpm2 := partsL_mono (treeL l) (k + 1)
        have hdp2 := deep_parts l[k].tree
        rw [treeL_get l k hkl] at g1 g2
        have hht := Nat.le_trans (ht_mem (List.getElem_mem hkl)) HF.out
        have hc2 := IH.out l[k] wr hht (by omega) TA
        unfold RV.val at hc2
        have HC := Lib.hid hc2
        have G1 := Lib.hid g1
        have hq : l[k].tree.deep ≤ 1000000 := by omega
        have i0 : (0 : Int) ≤ (k : Int) := by omega
        have i1 : (k : Int) < (n : Int) := by omega
        obtain ⟨c, hcc⟩ : ∃ c, c = deepL ((treeL l).take k) := ⟨_, rfl⟩
        rw [← hcc]
        have hcm : c ≤ 1000000 := by omega
        have HCC := Lib.hid hcc
        clear hc2 TA RR g1 g2 hht hpm hpm2 hp2 hcc hdm hdp2
        generalize l[k] = a at *
        obtain ⟨p, hpp⟩ : ∃ p, p = a.tree.deep := ⟨_, rfl⟩
        rw [← hpp] at HC hq G1
        clear hkt hkl hpp
        rcases Nat.le_total c p with hcp | hcp
        all_goals
          have hmx : max (c : Int) (p : Int) = ((max c p : Nat) : Int) := by omega
          go_wp2_with fail
          go_at_call 107
          refine HC.out.mono ?_
          rintro e w2 ⟨rfl, hb2⟩
          have HB2 := Lib.hid (HBR.out.trans (hb2.mono hz1))
          clear hb2
          go_wp2_with fail
          go_roundw
          case rel => exact ⟨k + 1, by omega, by go_num, by rw [G1.out, ← HCC.out]; go_num, HB2.out⟩
          case measure => simp [intOf]; omega
      · have i1 : ¬ (k : Int) < (n : Int) := by omega
        obtain rfl : k = n := by omega
        have hfull : (treeL l).take k = treeL l := List.take_of_length_le (by rw [treeL_len]; have := HN.out; omega)
        rw [hfull]
        have hbig := HDP.out
        obtain ⟨c, hcc⟩ : ∃ c, c = deepL (treeL l) := ⟨_, rfl⟩
        rw [← hcc] at hbig ⊢
        have hcm : c ≤ 1000000 := by omega
        have HCC := Lib.hid hcc
        clear hfull hcc hbig hpm hp2 hdm
        go_wp2_with fail
        go_ret
        exact ⟨by rw [← HCC.out]; go_num, HBW.out⟩
end Go.Proofs.YtoglbogfoolkaaaGreatDoor
