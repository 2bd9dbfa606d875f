/- RtWords -/
import Derived.Test.YtoglbogfoolkaaaGreatDoorRichTellsRowG33
import Derived.Test.YtoglbogfoolkaaaGreatDoorRichTellsRowG29
/- Walks: the word of a kind, and the words of a rich dependency that is whole, as the reference has them (chandleryref08.word, words). -/


namespace Go.Proofs.YtoglbogfoolkaaaGreatDoor
open Go.RowKit Go.Shelf
set_option linter.unusedVariables false

theorem sep_cases (q i : Nat) (hq : q < 8) : (((i : Int) == 2) = true ∧ (((q : Int) == 4) = true ∨ ((q : Int) == 4) = false ∧ ((q : Int) == 5) = true)) ∧ betweenK (q : Int) i = wElse ∨ (((i : Int) == 2) = false ∨ ((i : Int) == 2) = true ∧ ((q : Int) == 4) = false ∧ ((q : Int) == 5) = false) ∧ betweenK (q : Int) i = kwd (q : Int) := by
  have hm : mostK (q : Int) = 3 ↔ ((q : Int) = 4 ∨ (q : Int) = 5) := by
    unfold mostK
    split
    · simp [*]
    · split <;> simp_all
  unfold betweenK
  simp only [beq_iff_eq, beq_eq_false_iff_ne]
  by_cases h2 : i = 2
  · by_cases h4 : q = 4 ∨ q = 5
    · left
      refine ⟨⟨by omega, by omega⟩, if_pos ⟨h2, hm.2 (by omega)⟩⟩
    · right
      refine ⟨.inr ⟨by omega, by omega, by omega⟩, if_neg (fun h => by have := hm.1 h.2; omega)⟩
  · right
    exact ⟨.inl (by omega), if_neg (by omega)⟩
set_option maxRecDepth 100000 in
set_option maxHeartbeats 4000000 in
theorem rtword_any (q : Nat) (h2 : 2 ≤ q) (h8 : q < 8) (w : World) : Calls Tryz.prog 159 #[.int .u8 (q : Int)] w fun e w' => e = .returned (.string (bs (kwd (q : Int)))) ∧ Below w.heap.size w w' := by
  obtain rfl | rfl | rfl | rfl | rfl | rfl : q = 2 ∨ q = 3 ∨ q = 4 ∨ q = 5 ∨ q = 6 ∨ q = 7 := by omega
  all_goals
    simp only [Int.cast_ofNat_Int]
    go_enter Tryz.func159, Tryz.ntmps159
    go_wp2_with fail
    go_ret
    exact ⟨rfl, Below.refl _ _⟩
set_option maxRecDepth 100000 in
set_option maxHeartbeats 16000000 in
theorem rtwords_any : ∀ (f : Nat) (t : RV) (w : World), t.ht ≤ f → t.tree.okB = true → t.tree.parts ≤ 1000000 → RTree w.heap.size w t → Calls Tryz.prog 101 #[t.val] w (RWPost t.tree.words w)
  | 0, t, w, hf, _, _, _ => absurd hf (by rw [ht_args]; omega)
  | f + 1, t, w, hf, ho, hp, ha => by
    have IH := Lib.hid (fun x W h1 h2 h3 h4 => rtwords_any f x W h1 h2 h3 h4)
    have HA := Lib.hid ha.rrow
    have HF := Lib.hid (show htL t.args ≤ f by rw [ht_args] at hf; omega)
    have hm := ha.row.len
    by_cases hk : t.kind = 1
    · have hd : dmayB t.dep = true := by
        rw [tree_parts t, RT.okB, if_pos hk] at ho
        simp only [Bool.and_eq_true] at ho
        exact ho.2
      have hw := Lib.hid (show t.tree.words = dwords t.dep by rw [tree_parts t, RT.words, if_pos hk])
      have DW := Lib.hid (fun W => rdwords_any t.dep W ha.wf)
      unfold WordsPost at DW
      rw [(wordsL_yes hd).1, (wordsL_yes hd).2] at DW
      unfold RV.val
      rw [hk]
      clear ha hf ho hp hk hd
      go_enter Tryz.func101, Tryz.ntmps101
      go_wp2_with fail
      go_at_call 158
      refine (DW.out _).mono ?_
      rintro en w1 ⟨A, c, rfl, hT, _, hb⟩
      have HB := Lib.hid (((Below.refl w.heap.size w).alloc (Nat.le_refl _) _).trans (hb.mono (by simp)))
      have HT := Lib.hid hT
      clear hb hT
      go_wp2_with fail
      go_ret
      exact ⟨A, c, by rw [hw.out]; rfl, by rw [hw.out]; exact HT.out, HB.out⟩
    · have hk1 : (t.kind == 1) = false := by simp only [beq_eq_false_iff_ne]; exact hk
      have hok : (2 ≤ t.kind ∧ t.kind ≤ 7) ∧ okL (treeL t.args) = true := by
        rw [tree_parts t, RT.okB, if_neg hk] at ho
        simp only [Bool.and_eq_true, decide_eq_true_eq] at ho
        exact ⟨ho.1, ho.2.2.2⟩
      have hw := Lib.hid (show t.tree.words = accW t.kind (treeL t.args) t.args.length ++ [[41]] by
        rw [tree_parts t, RT.words, if_neg hk, accW, List.take_of_length_le (by rw [treeL_len]; exact Nat.le_refl _)]; rfl)
      have hpa : 1 + partsL (treeL t.args) ≤ 1000000 := by rw [tree_parts t, RT.parts] at hp; exact hp
      have HP := Lib.hid hpa
      have HO := Lib.hid hok.2
      obtain ⟨q, hq⟩ : ∃ q : Nat, t.kind = (q : Int) := ⟨t.kind.toNat, by omega⟩
      have hq2 : 2 ≤ q := by omega
      have hq8 : q < 8 := by omega
      rw [hq] at hw hk1
      obtain ⟨m, hmm⟩ : ∃ m, m = t.args.length := ⟨_, rfl⟩
      rw [← hmm] at hw hm
      unfold RV.val
      rw [hq, ← hmm]
      have HM := Lib.hid hmm
      clear ha hf ho hp hk hok hpa hq hmm
      generalize t.addr = aA at *
      generalize t.cap = ac at *
      generalize t.args = l at *
      generalize bs t.dep.name = n1 at *
      generalize t.dep.op = o1 at *
      generalize t.dep.evr.epoch = p1 at *
      generalize bs t.dep.evr.ver = v1 at *
      generalize bs t.dep.evr.rel = r1 at *
      obtain ⟨W1, hW1⟩ : ∃ W1, W1 = w.alloc (.cells #[.int .u8 (q : Int), .string n1, .int .u8 o1, .int .i64 p1, .string v1, .string r1, .slice aA m ac] 39) := ⟨_, rfl⟩
      have z1 : W1.heap.size = w.heap.size + 1 := by rw [hW1]; simp
      have k1 : W1.cell? ⟨w.heap.size, 0, none⟩ = some (.int .u8 (q : Int)) := by rw [hW1]; exact (World.cell?_alloc_at _ _ _ _ rfl).trans rfl
      have K6 := Lib.hid (show W1.cell? ⟨w.heap.size, 6, none⟩ = some (.slice aA m ac) by rw [hW1]; exact (World.cell?_alloc_at _ _ _ _ rfl).trans rfl)
      have hB1 : Below w.heap.size w W1 := by rw [hW1]; exact (Below.refl _ _).alloc (Nat.le_refl _) _
      have O1 := own_lit (enc := encStr) (size := 1) (base := w.heap.size + 1) (e := 9) W1 (bs [40]) #[.string ⟨#[40]⟩] rfl rfl (by omega)
      have HW1 := Lib.hid hW1
      have K1 := Lib.hid k1
      have HB1 := Lib.hid hB1
      have HO1 := Lib.hid O1
      have Z1 := Lib.hid z1
      clear hW1 k1 hB1 O1 z1
      go_enter Tryz.func101, Tryz.ntmps101
      go_wp2_with fail
      go_loopw [5, 6] (fun v iv wr => ∃ i : Nat, i ≤ m ∧ iv = .int .i64 (i : Int) ∧ Own encStr 1 (w.heap.size + 1) 9 v ((accW (q : Int) (treeL l) i).map bs) wr ∧ Below (w.heap.size + 1) W1 wr) (fun _ iv _ => m - (intOf iv).toNat)
      case atStart => exact ⟨0, by omega, rfl, by have h := HO1.out; rw [Z1.out, HW1.out] at h; exact h, by rw [HW1.out]; exact (Below.refl _ _).alloc (by simp) _⟩
      case round =>
        obtain ⟨i, hi, rfl, hO, hB⟩ := hrel
        rename World => wr
        have hll : ((accW (q : Int) (treeL l) i).map bs).length ≤ 5000001 := by
          have h1 := accW_len (k := (q : Int)) (l := treeL l) (i := i)
          have h2 := partsL_mono' (treeL l) i
          have h3 := HP.out
          rw [List.length_map]
          omega
        obtain ⟨Av, cv, rfl, hTv⟩ := TR.of_own hO
        have HBW := Lib.hid (HB1.out.trans (hB.mono (by omega)))
        have kq : wr.cell? ⟨w.heap.size, 0, none⟩ = some (.int .u8 (q : Int)) := (hB.cell (p := ⟨w.heap.size, 0, none⟩) (by show w.heap.size < w.heap.size + 1; omega)).trans K1.out
        have hzr : w.heap.size + 1 ≤ wr.heap.size := by have := hB.size; have := Z1.out; omega
        obtain ⟨LL, hLL⟩ : ∃ LL, LL = (accW (q : Int) (treeL l) i).map bs := ⟨_, rfl⟩
        rw [← hLL] at hll ⊢
        have HO' := Lib.hid (show Own encStr 1 (w.heap.size + 1) 9 (.slice Av LL.length cv) LL wr by rw [hLL]; exact hO)
        have HLL := Lib.hid hLL
        have HBR := Lib.hid hB
        clear hO hTv hB hLL
        by_cases hlt : i < m
        · have hka : i < l.length := by have := HM.out; omega
          have hRR := HA.out.below HBW.out
          obtain ⟨b, o, rfl, hb, e0, e1, e2, e3, e4, e5, e6⟩ := hRR.at_ hka
          have hht := Nat.le_trans (ht_mem (List.getElem_mem hka)) HF.out
          have hkt : i < (treeL l).length := by rw [treeL_len]; exact hka
          have g1 := accW_step (k := (q : Int)) hkt
          have g2 := okL_get hkt HO.out
          have g3 := partsL_get hkt
          rw [treeL_get l i hka] at g1 g2 g3
          have i1 : (i : Int) < (m : Int) := by omega
          have i0 : (0 : Int) ≤ (i : Int) := by omega
          have RT := HA.out.2 _ (List.getElem_mem hka)
          have IHa := Lib.hid (fun (W : World) (hW : Below w.heap.size w W) => IH.out l[i] W hht g2 (by have := HP.out; omega) ((RT.keeps hW).more hW.size))
          have hwl := words_many l[i].tree
          have hwp := HP.out
          have hD : (l[i].tree.words.map bs).length ≤ 5000000 := by rw [List.length_map]; omega
          unfold RV.val RWPost at IHa
          have G1 := Lib.hid g1
          have HD := Lib.hid hD
          have HRD := Lib.hid hRR
          have q6 : wr.cell? ⟨w.heap.size, 6, none⟩ = some (.slice (some ⟨b, o, none⟩) m ac) := (HBR.out.cell (p := ⟨w.heap.size, 6, none⟩) (by show w.heap.size < w.heap.size + 1; omega)).trans K6.out
          clear hRR RT g1 g2 g3 hwl hwp hD
          obtain ⟨a, haa⟩ : ∃ a, a = l[i] := ⟨_, rfl⟩
          rw [← haa] at IHa HD G1 e0 e1 e2 e3 e4 e5 e6
          have HKA := Lib.hid hka
          have HAA := Lib.hid haa
          clear hkt haa hht
          by_cases hi0 : i = 0
          · subst hi0
            simp only [Nat.zero_mul, Nat.add_zero] at e0 e1 e2 e3 e4 e5 e6
            have g : accW (q : Int) (treeL l) (0 + 1) = accW (q : Int) (treeL l) 0 ++ a.tree.words := by rw [G1.out]; simp [sepW]
            have HG := Lib.hid (show (accW (q : Int) (treeL l) (0 + 1)).map bs = LL ++ a.tree.words.map bs by rw [g, List.map_append, HLL.out])
            clear g
            go_wp2_with fail
            go_at_call 101
            refine (IHa.out _ HBW.out).mono ?_
            rintro en w5 ⟨A5, c5, rfl, hT5, hB5⟩
            have O5 : w5.ownsRow (w.heap.size + 1) 9 1 (.slice Av LL.length cv) LL.length (LL.flatMap encStr) := Own.below HO'.out hB5 (Nat.le_refl _)
            have hz5 := hB5.size
            have hz5w := Lib.hid (HBR.out.trans (hB5.mono hzr))
            clear hB5
            go_wp2_with (at_builtin; refine wpList_append_tr (P := Tryz.prog) _ rfl _ _ 26 rfl (w.heap.size + 1) 9 _ (by rfl) (by rfl) (by rfl) (by rfl) (by rfl) _ _ _ rfl O5 A5 c5 (a.tree.words.map bs) _ (List.length_map _).symm rfl hT5 (by have := HD.out; unfold maxLen; omega) (by have := HD.out; omega) (by omega) ?_; intro v1 w6 ho3 hg3 hw3)
            have HW6 := Lib.hid (hz5w.out.grown hg3 (by omega) (fun k hk => (World.ownsRow.lt O5 k hk).1))
            have HO6 := Lib.hid (own_app (X := LL) (Y := a.tree.words.map bs) ho3 (by simp) (by rw [List.flatMap_append, map_enc]))
            clear ho3 hg3 hw3 O5 hT5 hz5
            go_roundw
            case rel => exact ⟨0 + 1, by omega, by go_num, by rw [HG.out]; exact HO6.out, HW6.out⟩
            case measure => simp [intOf]; omega
          · have g : accW (q : Int) (treeL l) (i + 1) = accW (q : Int) (treeL l) i ++ [betweenK (q : Int) i] ++ a.tree.words := by rw [G1.out]; simp [sepW, hi0]
            have HG := Lib.hid (show (accW (q : Int) (treeL l) (i + 1)).map bs = (LL ++ [bs (betweenK (q : Int) i)]) ++ a.tree.words.map bs by rw [g, List.map_append, List.map_append, HLL.out]; rfl)
            have i2 : (0 : Int) < (i : Int) := by omega
            have HBT := Lib.hid (fun (W : World) => rtword_any q hq2 hq8 W)
            have hsep : (((i : Int) == 2) = true ∧ (((q : Int) == 4) = true ∨ ((q : Int) == 4) = false ∧ ((q : Int) == 5) = true)) ∧ betweenK (q : Int) i = wElse ∨ (((i : Int) == 2) = false ∨ ((i : Int) == 2) = true ∧ ((q : Int) == 4) = false ∧ ((q : Int) == 5) = false) ∧ betweenK (q : Int) i = kwd (q : Int) := sep_cases q i hq8
            have HROW := Lib.hid (fun k (hk : (Value.slice Av LL.length cv).ownBlock = some k) => World.ownsRow.lt HO'.out k hk)
            clear g hi0
            rcases hsep with ⟨⟨j1, j2⟩, js⟩ | ⟨j1, js⟩
            · rw [js] at HG
              have HB4 := Lib.hid (Below.refl wr.heap.size wr)
              have hz4 : wr.heap.size ≤ wr.heap.size := Nat.le_refl _
              have O4 : wr.ownsRow (w.heap.size + 1) 9 1 (.slice Av LL.length cv) LL.length (LL.flatMap encStr) := HO'.out
              clear js
              rcases j2 with j2 | ⟨j2, j3⟩
              all_goals
                go_wp2_with (at_builtin; refine wpList_append_own_at (P := Tryz.prog) _ rfl _ _ 26 rfl (w.heap.size + 1) 9 _ (.string { data := #[] }) 1 16 (by rfl) (by rfl) (by rfl) (by rfl) (by rfl) rfl (by decide) _ _ _ rfl (World.ownsRow.alloc O4 _) ⟨_, 0, none⟩ 1 1 [.string ⟨#[101, 108, 115, 101]⟩] rfl rfl (cell_one_new _ _ _) (by simp [Value.oneCell']) (by simp only [maxLen]; omega) (by omega) (by (try simp at hz4 ⊢); omega) ?_; intro v2 w6 ho1 hg1 _ hw1; have hz6 := hg1.size; have HG1 := Lib.hid hg1; have HO1' := Lib.hid ho1; clear ho1 hg1; have hB6 : Below (w.heap.size + 1) wr w6 := ((HB4.out.mono hzr).alloc (by (try simp at hz4); omega) _).grown HG1.out (by (try simp at hz4 ⊢); omega) (fun k hk => (HROW.out k hk).1); have Q6 : w6.cell? ⟨w.heap.size, 6, none⟩ = some (.slice (some ⟨b, o, none⟩) m ac) := (hB6.cell (p := ⟨w.heap.size, 6, none⟩) (by show w.heap.size < w.heap.size + 1; omega)).trans q6; have hR6 := HA.out.below (HBW.out.trans (hB6.mono (by omega))); obtain ⟨b', o', hbo, _, j0, j1', j2', j3', j4', j5', j6'⟩ := hR6.at_ HKA.out; cases hbo; rw [← HAA.out] at j0 j1' j2' j3' j4' j5' j6'; clear hR6)
                go_wp2_with fail
                go_at_call 101
                refine (IHa.out _ (HBW.out.trans (hB6.mono (by omega)))).mono ?_
                rintro en w7 ⟨A5, c5, rfl, hT5, hB7⟩
                have O6 : Own encStr 1 (w.heap.size + 1) 9 v2 (LL ++ [bs wElse]) w6 := own_app (X := LL) (Y := [bs wElse]) HO1'.out (by simp) (by simp [encStr, wElse, bs])
                have O7 : w7.ownsRow (w.heap.size + 1) 9 1 v2 (LL.length + 1) ((LL ++ [bs wElse]).flatMap encStr) := by
                  have h2 : w7.ownsRow (w.heap.size + 1) 9 1 v2 (LL ++ [bs wElse]).length ((LL ++ [bs wElse]).flatMap encStr) := O6.below hB7 (by (try simp at hz4 hz6); omega)
                  rw [show (LL ++ [bs wElse]).length = LL.length + 1 by simp] at h2
                  exact h2
                have hz7 := hB7.size
                have HB7 := Lib.hid (HBR.out.trans (hB6.trans (hB7.mono (by (try simp at hz4 hz6); omega))))
                have hrow2 := Lib.hid (World.ownsRow.lt O7)
                obtain ⟨Av2, cv2, rfl⟩ := own_shape O7
                clear hB7 hB6 O6
                go_wp2_with (at_builtin; refine wpList_append_tr (P := Tryz.prog) _ rfl _ _ 26 rfl (w.heap.size + 1) 9 _ (by rfl) (by rfl) (by rfl) (by rfl) (by rfl) _ _ _ rfl O7 A5 c5 (a.tree.words.map bs) _ (List.length_map _).symm rfl hT5 (by have := HD.out; unfold maxLen; omega) (by have := HD.out; omega) (by (try simp at hz4 hz6); omega) ?_; intro v3 w8 ho3 hg3 hw3)
                have HW8 := Lib.hid (HB7.out.grown hg3 (by (try simp at hz4 hz6); omega) (fun k hk => (hrow2.out k hk).1))
                have HO8 := Lib.hid (own_app (X := LL ++ [bs wElse]) (Y := a.tree.words.map bs) ho3 (by simp; omega) (by rw [map_enc, ← List.flatMap_append]))
                clear ho3 hg3 hw3 O7 hT5
                go_roundw
                case rel => exact ⟨i + 1, by omega, by go_num, by rw [HG.out]; exact HO8.out, HW8.out⟩
                case measure => simp [intOf]; omega
            · rw [js] at HG
              obtain ⟨sb, hsb⟩ : ∃ sb, sb = bs (kwd (q : Int)) := ⟨_, rfl⟩
              rw [← hsb] at HBT HG
              clear js hsb
              rcases j1 with j1 | ⟨j1, j2, j3⟩
              all_goals
                go_wp2_with fail
                go_at_call 159
                refine (HBT.out _).mono ?_
                rintro en w4 ⟨rfl, hB4⟩
                have HB4 := Lib.hid hB4
                have O4 : w4.ownsRow (w.heap.size + 1) 9 1 (.slice Av LL.length cv) LL.length (LL.flatMap encStr) := Own.below HO'.out hB4 (Nat.le_refl _)
                have hz4 := hB4.size
                clear hB4
                go_wp2_with (at_builtin; refine wpList_append_own_at (P := Tryz.prog) _ rfl _ _ 26 rfl (w.heap.size + 1) 9 _ (.string { data := #[] }) 1 16 (by rfl) (by rfl) (by rfl) (by rfl) (by rfl) rfl (by decide) _ _ _ rfl (World.ownsRow.alloc O4 _) ⟨_, 0, none⟩ 1 1 [.string sb] rfl rfl (cell_one_new _ _ _) (by simp [Value.oneCell']) (by simp only [maxLen]; omega) (by omega) (by (try simp at hz4 ⊢); omega) ?_; intro v2 w6 ho1 hg1 _ hw1; have hz6 := hg1.size; have HG1 := Lib.hid hg1; have HO1' := Lib.hid ho1; clear ho1 hg1; have hB6 : Below (w.heap.size + 1) wr w6 := ((HB4.out.mono hzr).alloc (by (try simp at hz4); omega) _).grown HG1.out (by (try simp at hz4 ⊢); omega) (fun k hk => (HROW.out k hk).1); have Q6 : w6.cell? ⟨w.heap.size, 6, none⟩ = some (.slice (some ⟨b, o, none⟩) m ac) := (hB6.cell (p := ⟨w.heap.size, 6, none⟩) (by show w.heap.size < w.heap.size + 1; omega)).trans q6; have hR6 := HA.out.below (HBW.out.trans (hB6.mono (by omega))); obtain ⟨b', o', hbo, _, j0, j1', j2', j3', j4', j5', j6'⟩ := hR6.at_ HKA.out; cases hbo; rw [← HAA.out] at j0 j1' j2' j3' j4' j5' j6'; clear hR6)
                go_wp2_with fail
                go_at_call 101
                refine (IHa.out _ (HBW.out.trans (hB6.mono (by omega)))).mono ?_
                rintro en w7 ⟨A5, c5, rfl, hT5, hB7⟩
                have O6 : Own encStr 1 (w.heap.size + 1) 9 v2 (LL ++ [sb]) w6 := own_app (X := LL) (Y := [sb]) HO1'.out (by simp) (by simp [encStr, wElse, bs])
                have O7 : w7.ownsRow (w.heap.size + 1) 9 1 v2 (LL.length + 1) ((LL ++ [sb]).flatMap encStr) := by
                  have h2 : w7.ownsRow (w.heap.size + 1) 9 1 v2 (LL ++ [sb]).length ((LL ++ [sb]).flatMap encStr) := O6.below hB7 (by (try simp at hz4 hz6); omega)
                  rw [show (LL ++ [sb]).length = LL.length + 1 by simp] at h2
                  exact h2
                have hz7 := hB7.size
                have HB7 := Lib.hid (HBR.out.trans (hB6.trans (hB7.mono (by (try simp at hz4 hz6); omega))))
                have hrow2 := Lib.hid (World.ownsRow.lt O7)
                obtain ⟨Av2, cv2, rfl⟩ := own_shape O7
                clear hB7 hB6 O6
                go_wp2_with (at_builtin; refine wpList_append_tr (P := Tryz.prog) _ rfl _ _ 26 rfl (w.heap.size + 1) 9 _ (by rfl) (by rfl) (by rfl) (by rfl) (by rfl) _ _ _ rfl O7 A5 c5 (a.tree.words.map bs) _ (List.length_map _).symm rfl hT5 (by have := HD.out; unfold maxLen; omega) (by have := HD.out; omega) (by (try simp at hz4 hz6); omega) ?_; intro v3 w8 ho3 hg3 hw3)
                have HW8 := Lib.hid (HB7.out.grown hg3 (by (try simp at hz4 hz6); omega) (fun k hk => (hrow2.out k hk).1))
                have HO8 := Lib.hid (own_app (X := LL ++ [sb]) (Y := a.tree.words.map bs) ho3 (by simp; omega) (by rw [map_enc, ← List.flatMap_append]))
                clear ho3 hg3 hw3 O7 hT5
                go_roundw
                case rel => exact ⟨i + 1, by omega, by go_num, by rw [HG.out]; exact HO8.out, HW8.out⟩
                case measure => simp [intOf]; omega
        · obtain rfl : i = m := by omega
          have i1 : ¬ (i : Int) < (i : Int) := by omega
          have O4 : wr.ownsRow (w.heap.size + 1) 9 1 (.slice Av LL.length cv) LL.length (LL.flatMap encStr) := HO'.out
          have HROW := Lib.hid (World.ownsRow.lt O4)
          have q6 : wr.cell? ⟨w.heap.size, 6, none⟩ = some (.slice aA i ac) := (HBR.out.cell (p := ⟨w.heap.size, 6, none⟩) (by show w.heap.size < w.heap.size + 1; omega)).trans K6.out
          go_wp2_with (at_builtin; refine wpList_append_own_at (P := Tryz.prog) _ rfl _ _ 26 rfl (w.heap.size + 1) 9 _ (.string { data := #[] }) 1 16 (by rfl) (by rfl) (by rfl) (by rfl) (by rfl) rfl (by decide) _ _ _ rfl (World.ownsRow.alloc O4 _) ⟨_, 0, none⟩ 1 1 [.string ⟨#[41]⟩] rfl rfl (cell_one_new _ _ _) (by simp [Value.oneCell']) (by simp only [maxLen]; omega) (by omega) (by simp; omega) ?_; intro v2 w6 ho1 hg1 _ hw1)
          have O6 : Own encStr 1 (w.heap.size + 1) 9 v2 (LL ++ [bs [41]]) w6 := own_app (X := LL) (Y := [bs [41]]) ho1 (by simp) (by simp [encStr, bs])
          have hB6 : Below w.heap.size w w6 := (HBW.out.alloc (by omega) _).grown hg1 (by simp; omega) (fun k hk => by have := (HROW.out k hk).1; omega)
          obtain ⟨A6, c6, rfl, hT6⟩ := TR.of_own O6
          clear ho1 hg1 hw1
          go_ret
          have hwd : t.tree.words.map bs = LL ++ [bs [41]] := by rw [hw.out, List.map_append, HLL.out]; rfl
          exact ⟨A6, c6, by rw [show t.tree.words.length = (LL ++ [bs [41]]).length by rw [← hwd, List.length_map]]; rfl, by rw [hwd]; exact hT6, hB6⟩
end Go.Proofs.YtoglbogfoolkaaaGreatDoor
