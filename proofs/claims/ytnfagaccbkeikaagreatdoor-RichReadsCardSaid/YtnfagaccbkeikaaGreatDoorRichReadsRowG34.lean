/- RichWords -/
import Derived.Test.YtnfagaccbkeikaaGreatDoorRichReadsRowG27
import Derived.Test.YtnfagaccbkeikaaGreatDoorRichReadsRowG31
import Derived.Test.YtnfagaccbkeikaaGreatDoorRichReadsRowG33
/- Walks: the words of a rich dependency that is whole (rich.words). -/





namespace Go.Proofs.YtnfagaccbkeikaaGreatDoor
open Go.RowKit Go.Shelf
set_option linter.unusedVariables false

def RWPost (L : List Bytes) (w : World) (e : Ending) (w' : World) : Prop := ∃ A c, e = .returned (.slice A L.length c) ∧ TR w' A (L.map bs) ∧ Below w.heap.size w w'
def accW (k : Int) (l : List RT) (i : Nat) : List Bytes := [40] :: wordsR k 0 (l.take i)
theorem accW_step {k : Int} {l : List RT} {i : Nat} (h : i < l.length) : accW k l (i + 1) = accW k l i ++ sepW k i ++ l[i].words := by
  unfold accW
  rw [take_snoc l i h, wordsR_app]
  have : (l.take i).length = i := by simp; omega
  rw [this]
  simp [wordsR]
theorem accW_len {k : Int} {l : List RT} {i : Nat} : (accW k l i).length ≤ 1 + 5 * partsL (l.take i) := by
  unfold accW
  have := wordsR_many k 0 (l.take i)
  simp only [List.length_cons]
  omega
theorem okL_get {l : List RT} {i : Nat} (h : i < l.length) (ho : okL l = true) : l[i].okB = true := okL_iff.1 ho _ (List.getElem_mem h)
theorem partsL_get : ∀ {l : List RT} {i : Nat} (h : i < l.length), l[i].parts ≤ partsL l
  | a :: l, 0, h => by simp [partsL]
  | a :: l, i + 1, h => by have := partsL_get (l := l) (i := i) (by simpa using h); simp only [List.getElem_cons_succ, partsL]; omega
theorem partsL_mono' : ∀ (l : List RT) (k : Nat), partsL (l.take k) ≤ partsL l
  | [], k => by simp [partsL]
  | a :: l, 0 => by simp [partsL]
  | a :: l, k + 1 => by have := partsL_mono' l k; simp only [List.take_succ_cons, partsL]; omega
theorem own_app {w : World} {base : Nat} {e : TypeId} {v : Value} {X Y : List ByteArray} {n : Nat} {xs : List Value} (h : w.ownsRow base e 1 v n xs) (hn : n = (X ++ Y).length) (hx : xs = (X ++ Y).flatMap encStr) : Own encStr 1 base e v (X ++ Y) w := by subst hn; subst hx; exact h
theorem map_enc (Y : List ByteArray) : Y.map Value.string = Y.flatMap encStr := by
  induction Y with
  | nil => rfl
  | cons a Y ih => simp [encStr, ih]
set_option maxRecDepth 100000 in
set_option maxHeartbeats 16000000 in
theorem rwords_any : ∀ (f : Nat) (t : RV) (w : World), t.ht ≤ f → t.tree.okB = true → t.tree.parts ≤ 1000000 → RTree w.heap.size w t → RichIn w → Calls Tryz.prog 124 #[t.val] w (RWPost t.tree.words w)
  | 0, t, w, hf, _, _, _, _ => absurd hf (by rw [ht_args]; omega)
  | f + 1, t, w, hf, ho, hp, ha, hI => by
    have IH := Lib.hid (fun x W h1 h2 h3 h4 h5 => rwords_any f x W h1 h2 h3 h4 h5)
    have HA := Lib.hid ha.rrow
    have HI := Lib.hid hI
    have HF := Lib.hid (show htL t.args ≤ f by rw [ht_args] at hf; omega)
    have hm := ha.row.len
    by_cases hk : t.kind = 1
    · have hd : dmayB t.dep = true := by
        rw [tree_parts t, RT.okB, if_pos hk] at ho
        simp only [Bool.and_eq_true] at ho
        exact ho.2
      have hw := Lib.hid (show t.tree.words = dwords t.dep by rw [tree_parts t, RT.words, if_pos hk])
      have DW := Lib.hid (fun W h => dwords_any t.dep W ha.wf h)
      unfold WordsPost at DW
      rw [(wordsL_yes hd).1, (wordsL_yes hd).2] at DW
      unfold RV.val
      rw [hk]
      clear ha hI hf ho hp hk hd
      go_enter Tryz.func124, Tryz.ntmps124
      go_wp2_with fail
      go_at_call 170
      refine (DW.out _ (HI.out.1.below ((Below.refl _ _).alloc (Nat.le_refl _) _))).mono ?_
      rintro en w1 ⟨A, c, rfl, hT, _, hb⟩
      have HB := Lib.hid (((Below.refl w.heap.size w).alloc (Nat.le_refl _) _).trans (hb.mono (by simp)))
      have HT := Lib.hid hT
      clear hb hT
      go_wp2_with fail
      go_ret
      exact ⟨A, c, by rw [hw.out]; rfl, by rw [hw.out]; exact HT.out, HB.out⟩
    · have hk1 : (t.kind == 1) = false := by simp only [beq_eq_false_iff_ne]; exact hk
      have hok : (2 ≤ t.kind ∧ t.kind ≤ 7) ∧ okL (treeL t.args) = true := by
        rw [tree_parts t, RT.okB, if_neg hk] at ho
        simp only [Bool.and_eq_true, decide_eq_true_eq] at ho
        exact ⟨ho.1, ho.2.2.2⟩
      have hw := Lib.hid (show t.tree.words = accW t.kind (treeL t.args) t.args.length ++ [[41]] by
        rw [tree_parts t, RT.words, if_neg hk, accW, List.take_of_length_le (by rw [treeL_len]; exact Nat.le_refl _)]; rfl)
      have hpa : 1 + partsL (treeL t.args) ≤ 1000000 := by rw [tree_parts t, RT.parts] at hp; exact hp
      have HP := Lib.hid hpa
      have HO := Lib.hid hok.2
      obtain ⟨q, hq⟩ : ∃ q : Nat, t.kind = (q : Int) := ⟨t.kind.toNat, by omega⟩
      have hq2 : 2 ≤ q := by omega
      have hq8 : q < 8 := by omega
      rw [hq] at hw hk1
      obtain ⟨m, hmm⟩ : ∃ m, m = t.args.length := ⟨_, rfl⟩
      rw [← hmm] at hw hm
      unfold RV.val
      rw [hq, ← hmm]
      have HM := Lib.hid hmm
      clear ha hI hf ho hp hk hok hpa hq hmm
      generalize t.addr = aA at *
      generalize t.cap = ac at *
      generalize t.args = l at *
      generalize bs t.dep.name = n1 at *
      generalize t.dep.op = o1 at *
      generalize t.dep.evr.epoch = p1 at *
      generalize bs t.dep.evr.ver = v1 at *
      generalize bs t.dep.evr.rel = r1 at *
      obtain ⟨W1, hW1⟩ : ∃ W1, W1 = w.alloc (.cells #[.int .u8 (q : Int), .string n1, .int .u8 o1, .int .i64 p1, .string v1, .string r1, .slice aA m ac] 29) := ⟨_, rfl⟩
      have z1 : W1.heap.size = w.heap.size + 1 := by rw [hW1]; simp
      have k1 : W1.cell? ⟨w.heap.size, 0, none⟩ = some (.int .u8 (q : Int)) := by rw [hW1]; exact (World.cell?_alloc_at _ _ _ _ rfl).trans rfl
      have hB1 : Below w.heap.size w W1 := by rw [hW1]; exact (Below.refl _ _).alloc (Nat.le_refl _) _
      have O1 := own_lit (enc := encStr) (size := 1) (base := w.heap.size + 1) (e := 9) W1 (bs [40]) #[.string ⟨#[40]⟩] rfl rfl (by omega)
      have HW1 := Lib.hid hW1
      have K1 := Lib.hid k1
      have HB1 := Lib.hid hB1
      have HO1 := Lib.hid O1
      have Z1 := Lib.hid z1
      clear hW1 k1 hB1 O1 z1
      go_enter Tryz.func124, Tryz.ntmps124
      go_wp2_with fail
      go_loopw [5, 22] (fun v iv wr => ∃ i : Nat, i ≤ m ∧ iv = .int .i64 (i : Int) ∧ Own encStr 1 (w.heap.size + 1) 9 v ((accW (q : Int) (treeL l) i).map bs) wr ∧ Below (w.heap.size + 1) W1 wr) (fun _ iv _ => m - (intOf iv).toNat)
      case atStart => exact ⟨0, by omega, rfl, by have h := HO1.out; rw [Z1.out, HW1.out] at h; exact h, by rw [HW1.out]; exact (Below.refl _ _).alloc (by simp) _⟩
      case round =>
        obtain ⟨i, hi, rfl, hO, hB⟩ := hrel
        rename World => wr
        have hll : ((accW (q : Int) (treeL l) i).map bs).length ≤ 5000001 := by
          have h1 := accW_len (k := (q : Int)) (l := treeL l) (i := i)
          have h2 := partsL_mono' (treeL l) i
          have h3 := HP.out
          rw [List.length_map]
          omega
        obtain ⟨Av, cv, rfl, hTv⟩ := TR.of_own hO
        have HBW := Lib.hid (HB1.out.trans (hB.mono (by omega)))
        have kq : wr.cell? ⟨w.heap.size, 0, none⟩ = some (.int .u8 (q : Int)) := (hB.cell (p := ⟨w.heap.size, 0, none⟩) (by show w.heap.size < w.heap.size + 1; omega)).trans K1.out
        have hzr : w.heap.size + 1 ≤ wr.heap.size := by have := hB.size; have := Z1.out; omega
        obtain ⟨LL, hLL⟩ : ∃ LL, LL = (accW (q : Int) (treeL l) i).map bs := ⟨_, rfl⟩
        rw [← hLL] at hll ⊢
        have HO' := Lib.hid (show Own encStr 1 (w.heap.size + 1) 9 (.slice Av LL.length cv) LL wr by rw [hLL]; exact hO)
        have HLL := Lib.hid hLL
        have HBR := Lib.hid hB
        clear hO hTv hB hLL
        by_cases hlt : i < m
        · have hka : i < l.length := by have := HM.out; omega
          have hRR := HA.out.below HBW.out
          obtain ⟨b, o, rfl, hb, e0, e1, e2, e3, e4, e5, e6⟩ := hRR.at_ hka
          have TA := (hRR.2 _ (List.getElem_mem hka)).more HBW.out.size
          have hht := Nat.le_trans (ht_mem (List.getElem_mem hka)) HF.out
          have hkt : i < (treeL l).length := by rw [treeL_len]; exact hka
          have g1 := accW_step (k := (q : Int)) hkt
          have g2 := okL_get hkt HO.out
          have g3 := partsL_get hkt
          rw [treeL_get l i hka] at g1 g2 g3
          have i1 : (i : Int) < (m : Int) := by omega
          have i0 : (0 : Int) ≤ (i : Int) := by omega
          have RT := HA.out.2 _ (List.getElem_mem hka)
          have IHa := Lib.hid (fun (W : World) (hW : Below w.heap.size w W) => IH.out l[i] W hht g2 (by have := HP.out; omega) ((RT.keeps hW).more hW.size) (HI.out.below hW))
          have hwl := words_many l[i].tree
          have hwp := HP.out
          have hD : (l[i].tree.words.map bs).length ≤ 5000000 := by rw [List.length_map]; omega
          unfold RV.val RWPost at IHa
          have G1 := Lib.hid g1
          have HD := Lib.hid hD
          have KI := Lib.hid (fun (W : World) (hW : Below w.heap.size w W) => (HI.out.below hW).2)
          have hsz := HBW.out.size
          clear TA hRR hht RT g1 g2 g3 hwl hwp hD
          generalize l[i] = a at *
          clear hka hkt
          by_cases hi0 : i = 0
          · subst hi0
            simp only [Nat.zero_mul, Nat.add_zero] at e0 e1 e2 e3 e4 e5 e6
            have g : accW (q : Int) (treeL l) (0 + 1) = accW (q : Int) (treeL l) 0 ++ a.tree.words := by rw [G1.out]; simp [sepW]
            have HG := Lib.hid (show (accW (q : Int) (treeL l) (0 + 1)).map bs = LL ++ a.tree.words.map bs by rw [g, List.map_append, HLL.out])
            clear g
            go_wp2_with fail
            go_at_call 124
            refine (IHa.out _ (HBW.out.alloc hsz _)).mono ?_
            rintro en w5 ⟨A5, c5, rfl, hT5, hB5⟩
            have O5 : w5.ownsRow (w.heap.size + 1) 9 1 (.slice Av LL.length cv) LL.length (LL.flatMap encStr) := (HO'.out.alloc _).below hB5 (Nat.le_refl _)
            have hz5 := hB5.size
            have hz5w := Lib.hid (HBR.out.trans (((Below.refl wr.heap.size wr).alloc (Nat.le_refl _) _).trans (hB5.mono (by simp)) |>.mono hzr))
            clear hB5
            go_wp2_with (at_builtin; refine wpList_append_tr (P := Tryz.prog) _ rfl _ _ 36 rfl (w.heap.size + 1) 9 _ (by rfl) (by rfl) (by rfl) (by rfl) (by rfl) _ _ _ rfl O5 A5 c5 (a.tree.words.map bs) _ (List.length_map _).symm rfl hT5 (by have := HD.out; unfold maxLen; omega) (by have := HD.out; omega) (by simp at hz5; omega) ?_; intro v1 w6 ho1 hg1 hw1)
            have HW6 := Lib.hid (hz5w.out.grown hg1 (by simp at hz5; omega) (fun k hk => (World.ownsRow.lt O5 k hk).1))
            have HO6 := Lib.hid (own_app (X := LL) (Y := a.tree.words.map bs) ho1 (by simp) (by rw [List.flatMap_append, map_enc]))
            clear ho1 hg1 hw1 O5 hT5 hz5
            go_roundw
            case rel => exact ⟨0 + 1, by omega, by go_num, by rw [HG.out]; exact HO6.out, HW6.out⟩
            case measure => simp [intOf]; omega
          · have g : accW (q : Int) (treeL l) (i + 1) = accW (q : Int) (treeL l) i ++ [betweenK (q : Int) i] ++ a.tree.words := by rw [G1.out]; simp [sepW, hi0]
            have HG := Lib.hid (show (accW (q : Int) (treeL l) (i + 1)).map bs = (LL ++ [bs (betweenK (q : Int) i)]) ++ a.tree.words.map bs by rw [g, List.map_append, List.map_append, HLL.out]; rfl)
            have i2 : (0 : Int) < (i : Int) := by omega
            have HBT := Lib.hid (fun (W : World) (hW : Below w.heap.size w W) => rbetween_any q i hq2 hq8 W (KI.out W hW))
            obtain ⟨sb, hsb⟩ : ∃ sb, sb = bs (betweenK (q : Int) i) := ⟨_, rfl⟩
            rw [← hsb] at HBT HG
            have kq2 : (wr.alloc (.cells #[.int .u8 a.kind, .string (bs a.dep.name), .int .u8 a.dep.op, .int .i64 a.dep.evr.epoch, .string (bs a.dep.evr.ver), .string (bs a.dep.evr.rel), .slice a.addr a.args.length a.cap] 29)).cell? ⟨w.heap.size, 0, none⟩ = some (.int .u8 (q : Int)) := (World.cell?_alloc_lt wr _ ⟨w.heap.size, 0, none⟩ (by show w.heap.size < wr.heap.size; omega)).trans kq
            clear g hsb hi0
            go_wp2_with fail
            go_at_call 134
            refine (HBT.out _ (HBW.out.alloc hsz _)).mono ?_
            rintro en w4 ⟨rfl, hB4⟩
            have HB4 := Lib.hid (((Below.refl wr.heap.size wr).alloc (Nat.le_refl _) (.cells #[.int .u8 a.kind, .string (bs a.dep.name), .int .u8 a.dep.op, .int .i64 a.dep.evr.epoch, .string (bs a.dep.evr.ver), .string (bs a.dep.evr.rel), .slice a.addr a.args.length a.cap] 29)).trans (hB4.mono (by simp)))
            have O4 : w4.ownsRow (w.heap.size + 1) 9 1 (.slice Av LL.length cv) LL.length (LL.flatMap encStr) := (HO'.out.alloc _).below hB4 (Nat.le_refl _)
            have hz4 := hB4.size
            have f0 := (hB4.cell (p := ⟨wr.heap.size, 0, none⟩) (by simp)).trans ((World.cell?_alloc_at _ _ _ _ rfl).trans rfl)
            have f1 := (hB4.cell (p := ⟨wr.heap.size, 1, none⟩) (by simp)).trans ((World.cell?_alloc_at _ _ _ _ rfl).trans rfl)
            have f2 := (hB4.cell (p := ⟨wr.heap.size, 2, none⟩) (by simp)).trans ((World.cell?_alloc_at _ _ _ _ rfl).trans rfl)
            have f3 := (hB4.cell (p := ⟨wr.heap.size, 3, none⟩) (by simp)).trans ((World.cell?_alloc_at _ _ _ _ rfl).trans rfl)
            have f4 := (hB4.cell (p := ⟨wr.heap.size, 4, none⟩) (by simp)).trans ((World.cell?_alloc_at _ _ _ _ rfl).trans rfl)
            have f5 := (hB4.cell (p := ⟨wr.heap.size, 5, none⟩) (by simp)).trans ((World.cell?_alloc_at _ _ _ _ rfl).trans rfl)
            have f6 := (hB4.cell (p := ⟨wr.heap.size, 6, none⟩) (by simp)).trans ((World.cell?_alloc_at _ _ _ _ rfl).trans rfl)
            have hrow : ∀ k, (Value.slice Av LL.length cv).ownBlock = some k → w.heap.size + 1 ≤ k ∧ k < wr.heap.size := fun k hk => World.ownsRow.lt HO'.out k hk
            have HROW := Lib.hid hrow
            clear hB4 hrow
            go_wp2_with (at_builtin; refine wpList_append_own_at (P := Tryz.prog) _ rfl _ _ 36 rfl (w.heap.size + 1) 9 _ (.string { data := #[] }) 1 16 (by rfl) (by rfl) (by rfl) (by rfl) (by rfl) rfl (by decide) _ _ _ rfl (World.ownsRow.alloc O4 _) ⟨_, 0, none⟩ 1 1 [.string sb] rfl rfl (cell_one_new _ _ _) (by simp [Value.oneCell']) (by simp only [maxLen]; omega) (by omega) (by simp at hz4 ⊢; omega) ?_; intro v2 w6 ho1 hg1 _ hw1; have hb6 : w6.heap[wr.heap.size]? = w4.heap[wr.heap.size]? := (hg1.block wr.heap.size (by simp at hz4 ⊢; omega) (fun e => by have := HROW.out _ e.symm; omega)).trans (Below.heap_alloc _ _ _ (by simp at hz4; omega)); have j0 := (World.cell?_of_block (w := w4) (a := ⟨wr.heap.size, 0, none⟩) hb6).trans f0; have j1 := (World.cell?_of_block (w := w4) (a := ⟨wr.heap.size, 1, none⟩) hb6).trans f1; have j2 := (World.cell?_of_block (w := w4) (a := ⟨wr.heap.size, 2, none⟩) hb6).trans f2; have j3 := (World.cell?_of_block (w := w4) (a := ⟨wr.heap.size, 3, none⟩) hb6).trans f3; have j4 := (World.cell?_of_block (w := w4) (a := ⟨wr.heap.size, 4, none⟩) hb6).trans f4; have j5 := (World.cell?_of_block (w := w4) (a := ⟨wr.heap.size, 5, none⟩) hb6).trans f5; have j6 := (World.cell?_of_block (w := w4) (a := ⟨wr.heap.size, 6, none⟩) hb6).trans f6; have hz6 := hg1.size; have HG1 := Lib.hid hg1; have HO1' := Lib.hid ho1; clear hb6 ho1 hg1)
            have hB6 : Below (w.heap.size + 1) wr w6 := ((HB4.out.mono hzr).alloc (by simp at hz4; omega) _).grown HG1.out (by simp at hz4 ⊢; omega) (fun k hk => (HROW.out k hk).1)
            go_at_call 124
            refine (IHa.out _ (HBW.out.trans (hB6.mono (by omega)))).mono ?_
            rintro en w7 ⟨A5, c5, rfl, hT5, hB7⟩
            have O6 : Own encStr 1 (w.heap.size + 1) 9 v2 (LL ++ [sb]) w6 := own_app (X := LL) (Y := [sb]) HO1'.out (by simp) (by simp [encStr])
            have O7 : w7.ownsRow (w.heap.size + 1) 9 1 v2 (LL.length + 1) ((LL ++ [sb]).flatMap encStr) := by
              have h2 : w7.ownsRow (w.heap.size + 1) 9 1 v2 (LL ++ [sb]).length ((LL ++ [sb]).flatMap encStr) := O6.below hB7 (Nat.le_refl _)
              rw [show (LL ++ [sb]).length = LL.length + 1 by simp] at h2
              exact h2
            have hz7 := hB7.size
            have HB7 := Lib.hid (HBR.out.trans (hB6.trans (hB7.mono (by simp at hz4 hz6; omega))))
            have hrow2 := Lib.hid (World.ownsRow.lt O7)
            obtain ⟨Av2, cv2, rfl⟩ := own_shape O7
            clear hB7 hB6 O6 f0 f1 f2 f3 f4 f5 f6 j0 j1 j2 j3 j4 j5 j6
            go_wp2_with (at_builtin; refine wpList_append_tr (P := Tryz.prog) _ rfl _ _ 36 rfl (w.heap.size + 1) 9 _ (by rfl) (by rfl) (by rfl) (by rfl) (by rfl) _ _ _ rfl O7 A5 c5 (a.tree.words.map bs) _ (List.length_map _).symm rfl hT5 (by have := HD.out; unfold maxLen; omega) (by have := HD.out; omega) (by simp at hz4 hz6; omega) ?_; intro v3 w8 ho3 hg3 hw3)
            have HW8 := Lib.hid (HB7.out.grown hg3 (by simp at hz4 hz6; omega) (fun k hk => (hrow2.out k hk).1))
            have HO8 := Lib.hid (own_app (X := LL ++ [sb]) (Y := a.tree.words.map bs) ho3 (by simp; omega) (by rw [map_enc, ← List.flatMap_append]))
            clear ho3 hg3 hw3 O7 hT5
            go_roundw
            case rel => exact ⟨i + 1, by omega, by go_num, by rw [HG.out]; exact HO8.out, HW8.out⟩
            case measure => simp [intOf]; omega
        · obtain rfl : i = m := by omega
          have i1 : ¬ (i : Int) < (i : Int) := by omega
          have O4 : wr.ownsRow (w.heap.size + 1) 9 1 (.slice Av LL.length cv) LL.length (LL.flatMap encStr) := HO'.out
          have HROW := Lib.hid (World.ownsRow.lt O4)
          go_wp2_with (at_builtin; refine wpList_append_own_at (P := Tryz.prog) _ rfl _ _ 36 rfl (w.heap.size + 1) 9 _ (.string { data := #[] }) 1 16 (by rfl) (by rfl) (by rfl) (by rfl) (by rfl) rfl (by decide) _ _ _ rfl (World.ownsRow.alloc O4 _) ⟨_, 0, none⟩ 1 1 [.string ⟨#[41]⟩] rfl rfl (cell_one_new _ _ _) (by simp [Value.oneCell']) (by simp only [maxLen]; omega) (by omega) (by simp; omega) ?_; intro v2 w6 ho1 hg1 _ hw1)
          have O6 : Own encStr 1 (w.heap.size + 1) 9 v2 (LL ++ [bs [41]]) w6 := own_app (X := LL) (Y := [bs [41]]) ho1 (by simp) (by simp [encStr, bs])
          have hB6 : Below w.heap.size w w6 := (HBW.out.alloc (by omega) _).grown hg1 (by simp; omega) (fun k hk => by have := (HROW.out k hk).1; omega)
          obtain ⟨A6, c6, rfl, hT6⟩ := TR.of_own O6
          clear ho1 hg1 hw1
          go_ret
          have hwd : t.tree.words.map bs = LL ++ [bs [41]] := by rw [hw.out, List.map_append, HLL.out]; rfl
          exact ⟨A6, c6, by rw [show t.tree.words.length = (LL ++ [bs [41]]).length by rw [← hwd, List.length_map]]; rfl, by rw [hwd]; exact hT6, hB6⟩
end Go.Proofs.YtnfagaccbkeikaaGreatDoor
