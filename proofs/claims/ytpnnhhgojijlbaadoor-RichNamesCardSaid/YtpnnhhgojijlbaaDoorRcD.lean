/- joined: RichWords, RichShow, RichAw0, RichAtomW, RichAwake -/
import Derived.Test.YtpnnhhgojijlbaaDoorRcA
import Derived.Test.YtpnnhhgojijlbaaDoorRichSame
import Derived.Test.YtpnnhhgojijlbaaDoorRichPlain3
import Derived.Test.YtpnnhhgojijlbaaDoorDepShow
import Derived.Test.YtpnnhhgojijlbaaDoorAppendTR
import Derived.Test.YtpnnhhgojijlbaaDoorRichMeasure
import Derived.Test.YtpnnhhgojijlbaaDoorRlJoin
import Derived.Test.YtpnnhhgojijlbaaDoorRichMem
import Derived.Test.YtpnnhhgojijlbaaDoorRlLaw0
import Derived.Test.YtpnnhhgojijlbaaDoorRcB
import Derived.Deep.RegionHeld3
namespace Go.Proofs.YtpnnhhgojijlbaaDoor
open Go.RowKit Go.Shelf
set_option linter.unusedVariables false
/- Walks: the words of a rich dependency that is whole (rich.words). -/

def RWPost (L : List Bytes) (w : World) (e : Ending) (w' : World) : Prop := ∃ A c, e = .returned (.slice A L.length c) ∧ TR w' A (L.map bs) ∧ Below w.heap.size w w'
def accW (k : Int) (l : List RT) (i : Nat) : List Bytes := [40] :: wordsR k 0 (l.take i)
theorem accW_step {k : Int} {l : List RT} {i : Nat} (h : i < l.length) : accW k l (i + 1) = accW k l i ++ sepW k i ++ l[i].words := by
  unfold accW
  rw [take_snoc l i h, wordsR_app]
  have : (l.take i).length = i := by simp; omega
  rw [this]
  simp [wordsR]
theorem accW_len {k : Int} {l : List RT} {i : Nat} : (accW k l i).length ≤ 1 + 5 * partsL (l.take i) := by
  unfold accW
  have := wordsR_many k 0 (l.take i)
  simp only [List.length_cons]
  omega
theorem okL_get {l : List RT} {i : Nat} (h : i < l.length) (ho : okL l = true) : l[i].okB = true := okL_iff.1 ho _ (List.getElem_mem h)
theorem partsL_get : ∀ {l : List RT} {i : Nat} (h : i < l.length), l[i].parts ≤ partsL l
  | a :: l, 0, h => by simp [partsL]
  | a :: l, i + 1, h => by have := partsL_get (l := l) (i := i) (by simpa using h); simp only [List.getElem_cons_succ, partsL]; omega
theorem partsL_mono' : ∀ (l : List RT) (k : Nat), partsL (l.take k) ≤ partsL l
  | [], k => by simp [partsL]
  | a :: l, 0 => by simp [partsL]
  | a :: l, k + 1 => by have := partsL_mono' l k; simp only [List.take_succ_cons, partsL]; omega
theorem own_app {w : World} {base : Nat} {e : TypeId} {v : Value} {X Y : List ByteArray} {n : Nat} {xs : List Value} (h : w.ownsRow base e 1 v n xs) (hn : n = (X ++ Y).length) (hx : xs = (X ++ Y).flatMap encStr) : Own encStr 1 base e v (X ++ Y) w := by subst hn; subst hx; exact h
theorem map_enc (Y : List ByteArray) : Y.map Value.string = Y.flatMap encStr := by
  induction Y with
  | nil => rfl
  | cons a Y ih => simp [encStr, ih]
set_option maxRecDepth 100000 in
set_option maxHeartbeats 16000000 in
theorem rwords_any : ∀ (f : Nat) (t : RV) (w : World), t.ht ≤ f → t.tree.okB = true → t.tree.parts ≤ 1000000 → RTree w.heap.size w t → RichIn w → Calls Tryd.prog 29 #[t.val] w (RWPost t.tree.words w)
  | 0, t, w, hf, _, _, _, _ => absurd hf (by rw [ht_args]; omega)
  | f + 1, t, w, hf, ho, hp, ha, hI => by
    have IH := Lib.hid (fun x W h1 h2 h3 h4 h5 => rwords_any f x W h1 h2 h3 h4 h5)
    have HA := Lib.hid ha.rrow
    have HI := Lib.hid hI
    have HF := Lib.hid (show htL t.args ≤ f by rw [ht_args] at hf; omega)
    have hm := ha.row.len
    by_cases hk : t.kind = 1
    · have hd : dmayB t.dep = true := by
        rw [tree_parts t, RT.okB, if_pos hk] at ho
        simp only [Bool.and_eq_true] at ho
        exact ho.2
      have hw := Lib.hid (show t.tree.words = dwords t.dep by rw [tree_parts t, RT.words, if_pos hk])
      have DW := Lib.hid (fun W h => dwords_any t.dep W ha.wf h)
      unfold WordsPost at DW
      rw [(wordsL_yes hd).1, (wordsL_yes hd).2] at DW
      unfold RV.val
      rw [hk]
      clear ha hI hf ho hp hk hd
      go_enter Tryd.func29, Tryd.ntmps29
      go_wp2_with fail
      go_at_call 57
      refine (DW.out _ (HI.out.1.below ((Below.refl _ _).alloc (Nat.le_refl _) _))).mono ?_
      rintro en w1 ⟨A, c, rfl, hT, _, hb⟩
      have HB := Lib.hid (((Below.refl w.heap.size w).alloc (Nat.le_refl _) _).trans (hb.mono (by simp)))
      have HT := Lib.hid hT
      clear hb hT
      go_wp2_with fail
      go_ret
      exact ⟨A, c, by rw [hw.out]; rfl, by rw [hw.out]; exact HT.out, HB.out⟩
    · have hk1 : (t.kind == 1) = false := by simp only [beq_eq_false_iff_ne]; exact hk
      have hok : (2 ≤ t.kind ∧ t.kind ≤ 7) ∧ okL (treeL t.args) = true := by
        rw [tree_parts t, RT.okB, if_neg hk] at ho
        simp only [Bool.and_eq_true, decide_eq_true_eq] at ho
        exact ⟨ho.1, ho.2.2.2⟩
      have hw := Lib.hid (show t.tree.words = accW t.kind (treeL t.args) t.args.length ++ [[41]] by
        rw [tree_parts t, RT.words, if_neg hk, accW, List.take_of_length_le (by rw [treeL_len]; exact Nat.le_refl _)]; rfl)
      have hpa : 1 + partsL (treeL t.args) ≤ 1000000 := by rw [tree_parts t, RT.parts] at hp; exact hp
      have HP := Lib.hid hpa
      have HO := Lib.hid hok.2
      obtain ⟨q, hq⟩ : ∃ q : Nat, t.kind = (q : Int) := ⟨t.kind.toNat, by omega⟩
      have hq2 : 2 ≤ q := by omega
      have hq8 : q < 8 := by omega
      rw [hq] at hw hk1
      obtain ⟨m, hmm⟩ : ∃ m, m = t.args.length := ⟨_, rfl⟩
      rw [← hmm] at hw hm
      unfold RV.val
      rw [hq, ← hmm]
      have HM := Lib.hid hmm
      clear ha hI hf ho hp hk hok hpa hq hmm
      generalize t.addr = aA at *
      generalize t.cap = ac at *
      generalize t.args = l at *
      generalize bs t.dep.name = n1 at *
      generalize t.dep.op = o1 at *
      generalize t.dep.evr.epoch = p1 at *
      generalize bs t.dep.evr.ver = v1 at *
      generalize bs t.dep.evr.rel = r1 at *
      obtain ⟨W1, hW1⟩ : ∃ W1, W1 = w.alloc (.cells #[.int .u8 (q : Int), .string n1, .int .u8 o1, .int .i64 p1, .string v1, .string r1, .slice aA m ac] 29) := ⟨_, rfl⟩
      have z1 : W1.heap.size = w.heap.size + 1 := by rw [hW1]; simp
      have k1 : W1.cell? ⟨w.heap.size, 0, none⟩ = some (.int .u8 (q : Int)) := by rw [hW1]; exact (World.cell?_alloc_at _ _ _ _ rfl).trans rfl
      have hB1 : Below w.heap.size w W1 := by rw [hW1]; exact (Below.refl _ _).alloc (Nat.le_refl _) _
      have O1 := own_lit (enc := encStr) (size := 1) (base := w.heap.size + 1) (e := 9) W1 (bs [40]) #[.string ⟨#[40]⟩] rfl rfl (by omega)
      have HW1 := Lib.hid hW1
      have K1 := Lib.hid k1
      have HB1 := Lib.hid hB1
      have HO1 := Lib.hid O1
      have Z1 := Lib.hid z1
      clear hW1 k1 hB1 O1 z1
      go_enter Tryd.func29, Tryd.ntmps29
      go_wp2_with fail
      go_loopw [5, 22] (fun v iv wr => ∃ i : Nat, i ≤ m ∧ iv = .int .i64 (i : Int) ∧ Own encStr 1 (w.heap.size + 1) 9 v ((accW (q : Int) (treeL l) i).map bs) wr ∧ Below (w.heap.size + 1) W1 wr) (fun _ iv _ => m - (intOf iv).toNat)
      case atStart => exact ⟨0, by omega, rfl, by have h := HO1.out; rw [Z1.out, HW1.out] at h; exact h, by rw [HW1.out]; exact (Below.refl _ _).alloc (by simp) _⟩
      case round =>
        obtain ⟨i, hi, rfl, hO, hB⟩ := hrel
        rename World => wr
        have hll : ((accW (q : Int) (treeL l) i).map bs).length ≤ 5000001 := by
          have h1 := accW_len (k := (q : Int)) (l := treeL l) (i := i)
          have h2 := partsL_mono' (treeL l) i
          have h3 := HP.out
          rw [List.length_map]
          omega
        obtain ⟨Av, cv, rfl, hTv⟩ := TR.of_own hO
        have HBW := Lib.hid (HB1.out.trans (hB.mono (by omega)))
        have kq : wr.cell? ⟨w.heap.size, 0, none⟩ = some (.int .u8 (q : Int)) := (hB.cell (p := ⟨w.heap.size, 0, none⟩) (by show w.heap.size < w.heap.size + 1; omega)).trans K1.out
        have hzr : w.heap.size + 1 ≤ wr.heap.size := by have := hB.size; have := Z1.out; omega
        obtain ⟨LL, hLL⟩ : ∃ LL, LL = (accW (q : Int) (treeL l) i).map bs := ⟨_, rfl⟩
        rw [← hLL] at hll ⊢
        have HO' := Lib.hid (show Own encStr 1 (w.heap.size + 1) 9 (.slice Av LL.length cv) LL wr by rw [hLL]; exact hO)
        have HLL := Lib.hid hLL
        have HBR := Lib.hid hB
        clear hO hTv hB hLL
        by_cases hlt : i < m
        · have hka : i < l.length := by have := HM.out; omega
          have hRR := HA.out.below HBW.out
          obtain ⟨b, o, rfl, hb, e0, e1, e2, e3, e4, e5, e6⟩ := hRR.at_ hka
          have TA := (hRR.2 _ (List.getElem_mem hka)).more HBW.out.size
          have hht := Nat.le_trans (ht_mem (List.getElem_mem hka)) HF.out
          have hkt : i < (treeL l).length := by rw [treeL_len]; exact hka
          have g1 := accW_step (k := (q : Int)) hkt
          have g2 := okL_get hkt HO.out
          have g3 := partsL_get hkt
          rw [treeL_get l i hka] at g1 g2 g3
          have i1 : (i : Int) < (m : Int) := by omega
          have i0 : (0 : Int) ≤ (i : Int) := by omega
          have RT := HA.out.2 _ (List.getElem_mem hka)
          have IHa := Lib.hid (fun (W : World) (hW : Below w.heap.size w W) => IH.out l[i] W hht g2 (by have := HP.out; omega) ((RT.keeps hW).more hW.size) (HI.out.below hW))
          have hwl := words_many l[i].tree
          have hwp := HP.out
          have hD : (l[i].tree.words.map bs).length ≤ 5000000 := by rw [List.length_map]; omega
          unfold RV.val RWPost at IHa
          have G1 := Lib.hid g1
          have HD := Lib.hid hD
          have KI := Lib.hid (fun (W : World) (hW : Below w.heap.size w W) => (HI.out.below hW).2)
          have hsz := HBW.out.size
          clear TA hRR hht RT g1 g2 g3 hwl hwp hD
          generalize l[i] = a at *
          clear hka hkt
          by_cases hi0 : i = 0
          · subst hi0
            simp only [Nat.zero_mul, Nat.add_zero] at e0 e1 e2 e3 e4 e5 e6
            have g : accW (q : Int) (treeL l) (0 + 1) = accW (q : Int) (treeL l) 0 ++ a.tree.words := by rw [G1.out]; simp [sepW]
            have HG := Lib.hid (show (accW (q : Int) (treeL l) (0 + 1)).map bs = LL ++ a.tree.words.map bs by rw [g, List.map_append, HLL.out])
            clear g
            go_wp2_with fail
            go_at_call 29
            refine (IHa.out _ (HBW.out.alloc hsz _)).mono ?_
            rintro en w5 ⟨A5, c5, rfl, hT5, hB5⟩
            have O5 : w5.ownsRow (w.heap.size + 1) 9 1 (.slice Av LL.length cv) LL.length (LL.flatMap encStr) := (HO'.out.alloc _).below hB5 (Nat.le_refl _)
            have hz5 := hB5.size
            have hz5w := Lib.hid (HBR.out.trans (((Below.refl wr.heap.size wr).alloc (Nat.le_refl _) _).trans (hB5.mono (by simp)) |>.mono hzr))
            clear hB5
            go_wp2_with (at_builtin; refine wpList_append_tr (P := Tryd.prog) _ rfl _ _ 22 rfl (w.heap.size + 1) 9 _ (by rfl) (by rfl) (by rfl) (by rfl) (by rfl) _ _ _ rfl O5 A5 c5 (a.tree.words.map bs) _ (List.length_map _).symm rfl hT5 (by have := HD.out; unfold maxLen; omega) (by have := HD.out; omega) (by simp at hz5; omega) ?_; intro v1 w6 ho1 hg1 hw1)
            have HW6 := Lib.hid (hz5w.out.grown hg1 (by simp at hz5; omega) (fun k hk => (World.ownsRow.lt O5 k hk).1))
            have HO6 := Lib.hid (own_app (X := LL) (Y := a.tree.words.map bs) ho1 (by simp) (by rw [List.flatMap_append, map_enc]))
            clear ho1 hg1 hw1 O5 hT5 hz5
            go_roundw
            case rel => exact ⟨0 + 1, by omega, by go_num, by rw [HG.out]; exact HO6.out, HW6.out⟩
            case measure => simp [intOf]; omega
          · have g : accW (q : Int) (treeL l) (i + 1) = accW (q : Int) (treeL l) i ++ [betweenK (q : Int) i] ++ a.tree.words := by rw [G1.out]; simp [sepW, hi0]
            have HG := Lib.hid (show (accW (q : Int) (treeL l) (i + 1)).map bs = (LL ++ [bs (betweenK (q : Int) i)]) ++ a.tree.words.map bs by rw [g, List.map_append, List.map_append, HLL.out]; rfl)
            have i2 : (0 : Int) < (i : Int) := by omega
            have HBT := Lib.hid (fun (W : World) (hW : Below w.heap.size w W) => rbetween_any q i hq2 hq8 W (KI.out W hW))
            obtain ⟨sb, hsb⟩ : ∃ sb, sb = bs (betweenK (q : Int) i) := ⟨_, rfl⟩
            rw [← hsb] at HBT HG
            have kq2 : (wr.alloc (.cells #[.int .u8 a.kind, .string (bs a.dep.name), .int .u8 a.dep.op, .int .i64 a.dep.evr.epoch, .string (bs a.dep.evr.ver), .string (bs a.dep.evr.rel), .slice a.addr a.args.length a.cap] 29)).cell? ⟨w.heap.size, 0, none⟩ = some (.int .u8 (q : Int)) := (World.cell?_alloc_lt wr _ ⟨w.heap.size, 0, none⟩ (by show w.heap.size < wr.heap.size; omega)).trans kq
            clear g hsb hi0
            go_wp2_with fail
            go_at_call 58
            refine (HBT.out _ (HBW.out.alloc hsz _)).mono ?_
            rintro en w4 ⟨rfl, hB4⟩
            have HB4 := Lib.hid (((Below.refl wr.heap.size wr).alloc (Nat.le_refl _) (.cells #[.int .u8 a.kind, .string (bs a.dep.name), .int .u8 a.dep.op, .int .i64 a.dep.evr.epoch, .string (bs a.dep.evr.ver), .string (bs a.dep.evr.rel), .slice a.addr a.args.length a.cap] 29)).trans (hB4.mono (by simp)))
            have O4 : w4.ownsRow (w.heap.size + 1) 9 1 (.slice Av LL.length cv) LL.length (LL.flatMap encStr) := (HO'.out.alloc _).below hB4 (Nat.le_refl _)
            have hz4 := hB4.size
            have f0 := (hB4.cell (p := ⟨wr.heap.size, 0, none⟩) (by simp)).trans ((World.cell?_alloc_at _ _ _ _ rfl).trans rfl)
            have f1 := (hB4.cell (p := ⟨wr.heap.size, 1, none⟩) (by simp)).trans ((World.cell?_alloc_at _ _ _ _ rfl).trans rfl)
            have f2 := (hB4.cell (p := ⟨wr.heap.size, 2, none⟩) (by simp)).trans ((World.cell?_alloc_at _ _ _ _ rfl).trans rfl)
            have f3 := (hB4.cell (p := ⟨wr.heap.size, 3, none⟩) (by simp)).trans ((World.cell?_alloc_at _ _ _ _ rfl).trans rfl)
            have f4 := (hB4.cell (p := ⟨wr.heap.size, 4, none⟩) (by simp)).trans ((World.cell?_alloc_at _ _ _ _ rfl).trans rfl)
            have f5 := (hB4.cell (p := ⟨wr.heap.size, 5, none⟩) (by simp)).trans ((World.cell?_alloc_at _ _ _ _ rfl).trans rfl)
            have f6 := (hB4.cell (p := ⟨wr.heap.size, 6, none⟩) (by simp)).trans ((World.cell?_alloc_at _ _ _ _ rfl).trans rfl)
            have hrow : ∀ k, (Value.slice Av LL.length cv).ownBlock = some k → w.heap.size + 1 ≤ k ∧ k < wr.heap.size := fun k hk => World.ownsRow.lt HO'.out k hk
            have HROW := Lib.hid hrow
            clear hB4 hrow
            go_wp2_with (at_builtin; refine wpList_append_own_at (P := Tryd.prog) _ rfl _ _ 22 rfl (w.heap.size + 1) 9 _ (.string { data := #[] }) 1 16 (by rfl) (by rfl) (by rfl) (by rfl) (by rfl) rfl (by decide) _ _ _ rfl (World.ownsRow.alloc O4 _) ⟨_, 0, none⟩ 1 1 [.string sb] rfl rfl (cell_one_new _ _ _) (by simp [Value.oneCell']) (by simp only [maxLen]; omega) (by omega) (by simp at hz4 ⊢; omega) ?_; intro v2 w6 ho1 hg1 _ hw1; have hb6 : w6.heap[wr.heap.size]? = w4.heap[wr.heap.size]? := (hg1.block wr.heap.size (by simp at hz4 ⊢; omega) (fun e => by have := HROW.out _ e.symm; omega)).trans (Below.heap_alloc _ _ _ (by simp at hz4; omega)); have j0 := (World.cell?_of_block (w := w4) (a := ⟨wr.heap.size, 0, none⟩) hb6).trans f0; have j1 := (World.cell?_of_block (w := w4) (a := ⟨wr.heap.size, 1, none⟩) hb6).trans f1; have j2 := (World.cell?_of_block (w := w4) (a := ⟨wr.heap.size, 2, none⟩) hb6).trans f2; have j3 := (World.cell?_of_block (w := w4) (a := ⟨wr.heap.size, 3, none⟩) hb6).trans f3; have j4 := (World.cell?_of_block (w := w4) (a := ⟨wr.heap.size, 4, none⟩) hb6).trans f4; have j5 := (World.cell?_of_block (w := w4) (a := ⟨wr.heap.size, 5, none⟩) hb6).trans f5; have j6 := (World.cell?_of_block (w := w4) (a := ⟨wr.heap.size, 6, none⟩) hb6).trans f6; have hz6 := hg1.size; have HG1 := Lib.hid hg1; have HO1' := Lib.hid ho1; clear hb6 ho1 hg1)
            have hB6 : Below (w.heap.size + 1) wr w6 := ((HB4.out.mono hzr).alloc (by simp at hz4; omega) _).grown HG1.out (by simp at hz4 ⊢; omega) (fun k hk => (HROW.out k hk).1)
            go_at_call 29
            refine (IHa.out _ (HBW.out.trans (hB6.mono (by omega)))).mono ?_
            rintro en w7 ⟨A5, c5, rfl, hT5, hB7⟩
            have O6 : Own encStr 1 (w.heap.size + 1) 9 v2 (LL ++ [sb]) w6 := own_app (X := LL) (Y := [sb]) HO1'.out (by simp) (by simp [encStr])
            have O7 : w7.ownsRow (w.heap.size + 1) 9 1 v2 (LL.length + 1) ((LL ++ [sb]).flatMap encStr) := by
              have h2 : w7.ownsRow (w.heap.size + 1) 9 1 v2 (LL ++ [sb]).length ((LL ++ [sb]).flatMap encStr) := O6.below hB7 (Nat.le_refl _)
              rw [show (LL ++ [sb]).length = LL.length + 1 by simp] at h2
              exact h2
            have hz7 := hB7.size
            have HB7 := Lib.hid (HBR.out.trans (hB6.trans (hB7.mono (by simp at hz4 hz6; omega))))
            have hrow2 := Lib.hid (World.ownsRow.lt O7)
            obtain ⟨Av2, cv2, rfl⟩ := own_shape O7
            clear hB7 hB6 O6 f0 f1 f2 f3 f4 f5 f6 j0 j1 j2 j3 j4 j5 j6
            go_wp2_with (at_builtin; refine wpList_append_tr (P := Tryd.prog) _ rfl _ _ 22 rfl (w.heap.size + 1) 9 _ (by rfl) (by rfl) (by rfl) (by rfl) (by rfl) _ _ _ rfl O7 A5 c5 (a.tree.words.map bs) _ (List.length_map _).symm rfl hT5 (by have := HD.out; unfold maxLen; omega) (by have := HD.out; omega) (by simp at hz4 hz6; omega) ?_; intro v3 w8 ho3 hg3 hw3)
            have HW8 := Lib.hid (HB7.out.grown hg3 (by simp at hz4 hz6; omega) (fun k hk => (hrow2.out k hk).1))
            have HO8 := Lib.hid (own_app (X := LL ++ [sb]) (Y := a.tree.words.map bs) ho3 (by simp; omega) (by rw [map_enc, ← List.flatMap_append]))
            clear ho3 hg3 hw3 O7 hT5
            go_roundw
            case rel => exact ⟨i + 1, by omega, by go_num, by rw [HG.out]; exact HO8.out, HW8.out⟩
            case measure => simp [intOf]; omega
        · obtain rfl : i = m := by omega
          have i1 : ¬ (i : Int) < (i : Int) := by omega
          have O4 : wr.ownsRow (w.heap.size + 1) 9 1 (.slice Av LL.length cv) LL.length (LL.flatMap encStr) := HO'.out
          have HROW := Lib.hid (World.ownsRow.lt O4)
          go_wp2_with (at_builtin; refine wpList_append_own_at (P := Tryd.prog) _ rfl _ _ 22 rfl (w.heap.size + 1) 9 _ (.string { data := #[] }) 1 16 (by rfl) (by rfl) (by rfl) (by rfl) (by rfl) rfl (by decide) _ _ _ rfl (World.ownsRow.alloc O4 _) ⟨_, 0, none⟩ 1 1 [.string ⟨#[41]⟩] rfl rfl (cell_one_new _ _ _) (by simp [Value.oneCell']) (by simp only [maxLen]; omega) (by omega) (by simp; omega) ?_; intro v2 w6 ho1 hg1 _ hw1)
          have O6 : Own encStr 1 (w.heap.size + 1) 9 v2 (LL ++ [bs [41]]) w6 := own_app (X := LL) (Y := [bs [41]]) ho1 (by simp) (by simp [encStr, bs])
          have hB6 : Below w.heap.size w w6 := (HBW.out.alloc (by omega) _).grown hg1 (by simp; omega) (fun k hk => by have := (HROW.out k hk).1; omega)
          obtain ⟨A6, c6, rfl, hT6⟩ := TR.of_own O6
          clear ho1 hg1 hw1
          go_ret
          have hwd : t.tree.words.map bs = LL ++ [bs [41]] := by rw [hw.out, List.map_append, HLL.out]; rfl
          exact ⟨A6, c6, by rw [show t.tree.words.length = (LL ++ [bs [41]]).length by rw [← hwd, List.length_map]]; rfl, by rw [hwd]; exact hT6, hB6⟩

/- Walks: is a rich dependency whole, its words, its text (rich.Whole, Words, Show). -/

set_option maxRecDepth 100000 in
set_option maxHeartbeats 4000000 in
theorem rwhole_any (t : RV) (w : World) (hp : t.tree.parts ≤ 1000000) (ht : RTree w.heap.size w t) (hI : RichIn w) : Calls Tryd.prog 11 #[t.val] w fun e w' => e = .returned (.bool t.tree.whole) ∧ Below w.heap.size w w' := by
  have HC := Lib.hid (rmeasure_any t.ht t (w.alloc (.cells #[.int .u8 t.kind, .string (bs t.dep.name), .int .u8 t.dep.op, .int .i64 t.dep.evr.epoch, .string (bs t.dep.evr.ver), .string (bs t.dep.evr.rel), .slice t.addr t.args.length t.cap] 29)) (Nat.le_refl _) hp ((ht.keeps ((Below.refl _ _).alloc (Nat.le_refl _) _)).more (by simp)) (hI.below ((Below.refl _ _).alloc (Nat.le_refl _) _)))
  have HP := Lib.hid hp
  unfold MeasPost at HC
  unfold RV.val at HC ⊢
  clear ht hI hp
  generalize t.args.length = m at *
  go_enter Tryd.func11, Tryd.ntmps11
  go_wp2_with fail
  go_at_call 30
  refine HC.out.mono ?_
  rintro en w1 ⟨p, d, rfl, h1, h2, h3, hb⟩
  have HB := Lib.hid (((Below.refl w.heap.size w).alloc (Nat.le_refl _) _).trans (hb.mono (by simp)))
  have H3 := Lib.hid h3
  clear hb h3 HC h1 h2
  cases hok : t.tree.okB with
  | false =>
    have hw := Lib.hid (show t.tree.whole = false by unfold RT.whole; rw [hok]; rfl)
    clear hok
    go_wp2_with fail
    go_ret
    exact ⟨by rw [hw.out]; rfl, HB.out⟩
  | true =>
    obtain ⟨e1, e2⟩ := H3.out hok
    by_cases c1 : p ≤ 24
    · have c1' : (p : Int) ≤ 24 := by omega
      by_cases c2 : d ≤ 8
      · have c2' : (d : Int) ≤ 8 := by omega
        have hw := Lib.hid (show t.tree.whole = true by unfold RT.whole; rw [hok, decide_eq_true (by omega)]; rfl)
        clear hok e1 e2 c1 c2
        go_wp2_with fail
        go_ret
        exact ⟨by rw [hw.out]; rfl, HB.out⟩
      · have c2' : decide ((d : Int) ≤ 8) = false := decide_eq_false (by omega)
        have hw := Lib.hid (show t.tree.whole = false by unfold RT.whole; rw [hok, decide_eq_false (by omega)]; rfl)
        clear hok e1 e2 c1 c2
        go_wp2_with fail
        go_ret
        exact ⟨by rw [hw.out]; rfl, HB.out⟩
    · have c1' : decide ((p : Int) ≤ 24) = false := decide_eq_false (by omega)
      have hw := Lib.hid (show t.tree.whole = false by unfold RT.whole; rw [hok, decide_eq_false (by omega)]; rfl)
      clear hok e1 e2 c1
      go_wp2_with fail
      go_ret
      exact ⟨by rw [hw.out]; rfl, HB.out⟩
theorem whole_ok {t : RT} (h : t.whole = true) : t.okB = true := by unfold RT.whole at h; simp only [Bool.and_eq_true] at h; exact h.1
/-- what Words hands back -/
def WPost (t : RT) (w : World) (e : Ending) (w' : World) : Prop :=
  if t.whole = true then ∃ A c, e = .returned (.tuple #[.slice A t.words.length c, .int .i64 0]) ∧ TR w' A (t.words.map bs) ∧ Below w.heap.size w w' else e = .returned (.tuple #[.slice none 0 0, .int .i64 4]) ∧ Below w.heap.size w w'
theorem WPost.no {t : RT} {w w' : World} (h : t.whole = false) (hb : Below w.heap.size w w') : WPost t w (.returned (.tuple #[.slice none 0 0, .int .i64 4])) w' := by unfold WPost; rw [if_neg (by rw [h]; decide)]; exact ⟨rfl, hb⟩
theorem WPost.yes {t : RT} {w w' : World} {A : Option Addr} {c : Nat} (h : t.whole = true) (ht : TR w' A (t.words.map bs)) (hb : Below w.heap.size w w') : WPost t w (.returned (.tuple #[.slice A t.words.length c, .int .i64 0])) w' := by unfold WPost; rw [if_pos h]; exact ⟨A, c, rfl, ht, hb⟩
set_option maxRecDepth 100000 in
set_option maxHeartbeats 4000000 in
theorem rwordsW_any (t : RV) (w : World) (hp : t.tree.parts ≤ 1000000) (ht : RTree w.heap.size w t) (hI : RichIn w) : Calls Tryd.prog 10 #[t.val] w (WPost t.tree w) := by
  have HK := Lib.hid (fun (W : World) (hW : Below w.heap.size w W) => rwhole_any t W hp ((ht.keeps hW).more hW.size) (hI.below hW))
  have HD := Lib.hid (fun (W : World) (hW : Below w.heap.size w W) (ho : t.tree.okB = true) => rwords_any t.ht t W (Nat.le_refl _) ho hp ((ht.keeps hW).more hW.size) (hI.below hW))
  unfold RWPost at HD
  unfold RV.val at HK HD ⊢
  clear ht hI hp
  obtain ⟨k0, hk0⟩ : ∃ k0, k0 = w.alloc (.cells #[.int .u8 t.kind, .string (bs t.dep.name), .int .u8 t.dep.op, .int .i64 t.dep.evr.epoch, .string (bs t.dep.evr.ver), .string (bs t.dep.evr.rel), .slice t.addr t.args.length t.cap] 29) := ⟨_, rfl⟩
  have hX : Box7 w.heap.size (.int .u8 t.kind) (.string (bs t.dep.name)) (.int .u8 t.dep.op) (.int .i64 t.dep.evr.epoch) (.string (bs t.dep.evr.ver)) (.string (bs t.dep.evr.rel)) (.slice t.addr t.args.length t.cap) k0 := by rw [hk0]; exact Box7.new _ _ _ _ _ _ _ _ _
  have HX := Lib.hid hX
  have HB0 := Lib.hid (show Below w.heap.size w k0 by rw [hk0]; exact (Below.refl _ _).alloc (Nat.le_refl _) _)
  have HK0 := Lib.hid hk0
  clear hk0 hX
  generalize t.args.length = m at *
  go_enter Tryd.func10, Tryd.ntmps10
  go_wp2_with fail
  go_at_call 11
  rw [← HK0.out]
  refine (HK.out k0 HB0.out).mono ?_
  rintro en w1 ⟨rfl, hb⟩
  have HB := Lib.hid (HB0.out.trans (hb.mono HB0.out.size))
  obtain ⟨⟨h0, h1, h2, h3, h4, h5, h6⟩, _, _⟩ := HX.out.past (hb.mono (HX.out.2.2))
  clear hb
  cases hwh : t.tree.whole with
  | false =>
    have HWH := Lib.hid hwh
    clear hwh
    go_wp2_with fail
    go_ret2
    exact WPost.no HWH.out HB.out
  | true =>
    have HO := Lib.hid (whole_ok hwh)
    have HWH := Lib.hid hwh
    clear hwh
    go_wp2_with fail
    go_at_call 29
    refine (HD.out w1 HB.out HO.out).mono ?_
    rintro en w2 ⟨A, c, rfl, hT, hb2⟩
    have HT := Lib.hid hT
    have HB2 := Lib.hid (HB.out.trans (hb2.mono HB.out.size))
    clear hT hb2
    go_wp2_with fail
    go_ret2
    exact WPost.yes HWH.out HT.out HB2.out
theorem texts_bs (l : List Bytes) : texts (l.map bs) = l := by
  unfold texts
  rw [List.map_map]
  exact (List.map_congr_left fun x _ => bs_toList x).trans (List.map_id _)
set_option maxRecDepth 100000 in
set_option maxHeartbeats 4000000 in
theorem rshow_any (t : RV) (w : World) (hp : t.tree.parts ≤ 1000000) (ht : RTree w.heap.size w t) (hI : RichIn w) : Calls Tryd.prog 8 #[t.val] w fun e w' => e = .returned (.tuple #[.string (bs (showR t.tree).1), .int .i64 (showR t.tree).2]) ∧ Below w.heap.size w w' := by
  have HK := Lib.hid (rwordsW_any t (w.alloc (.cells #[.int .u8 t.kind, .string (bs t.dep.name), .int .u8 t.dep.op, .int .i64 t.dep.evr.epoch, .string (bs t.dep.evr.ver), .string (bs t.dep.evr.rel), .slice t.addr t.args.length t.cap] 29)) hp ((ht.keeps ((Below.refl _ _).alloc (Nat.le_refl _) _)).more (by simp)) (hI.below ((Below.refl _ _).alloc (Nat.le_refl _) _)))
  have HP := Lib.hid hp
  unfold WPost at HK
  unfold RV.val at HK ⊢
  clear ht hI hp
  generalize t.args.length = m at *
  cases hwh : t.tree.whole with
  | false =>
    rw [hwh] at HK
    simp only [Bool.false_eq_true, if_false] at HK
    have hs := Lib.hid (show showR t.tree = ([], 4) by unfold showR; rw [hwh]; rfl)
    clear hwh
    go_enter Tryd.func8, Tryd.ntmps8
    go_wp2_with fail
    go_at_call 10
    refine HK.out.mono ?_
    rintro en w1 ⟨rfl, hb⟩
    have HB := Lib.hid (((Below.refl w.heap.size w).alloc (Nat.le_refl _) _).trans (hb.mono (by simp)))
    clear hb
    go_wp2_with fail
    go_ret2
    exact ⟨by rw [hs.out]; rfl, HB.out⟩
  | true =>
    rw [hwh] at HK
    simp only [if_true] at HK
    have HO := Lib.hid (whole_ok hwh)
    have HWH := Lib.hid hwh
    clear hwh
    go_enter Tryd.func8, Tryd.ntmps8
    go_wp2_with fail
    go_at_call 10
    refine HK.out.mono ?_
    rintro en w1 ⟨A, c, rfl, hT, hb⟩
    have HB := Lib.hid (((Below.refl w.heap.size w).alloc (Nat.le_refl _) _).trans (hb.mono (by simp)))
    have hwe := weigh_words HO.out HP.out
    have hln := words_many t.tree
    have hpp := HP.out
    have hRd : Rd encStr 1 w1.heap.size A t.tree.words.length (t.tree.words.map bs) w1 := by
      refine ⟨by simp, by unfold maxLen; omega, fun k hk => ?_⟩
      obtain ⟨b, o, e, hl, hc⟩ := hT k hk
      refine ⟨b, o, e, hl, fun j u hu => ?_⟩
      cases j with
      | zero => simp only [encStr, List.getElem?_cons_zero, Option.some.injEq] at hu; subst hu; simpa using hc
      | succ j => simp [encStr] at hu
    have hj := join_any (t.tree.words.map bs) A _ c w1 hRd (by rw [texts_bs]; omega)
    rw [texts_bs, List.length_map] at hj
    have HJ := Lib.hid hj
    obtain ⟨s, hs⟩ : ∃ s, s = bs (joinS none t.tree.words) := ⟨_, rfl⟩
    rw [← hs] at HJ
    have HS := Lib.hid hs
    have hsz : s.size = (joinS none t.tree.words).length := by rw [hs, bs_size]
    by_cases hl : 4096 < s.size
    · have hl' : (4096 : Int) < (s.size : Int) := by omega
      have hsh := Lib.hid (show showR t.tree = ([], 40) by unfold showR; rw [if_pos HWH.out, if_pos (by omega)])
      clear hT hb hwe hln hpp hRd hj hs hsz hl
      generalize t.tree.words.length = n at *
      go_wp2_with fail
      go_at_call 28
      refine HJ.out.mono ?_
      rintro en w2 ⟨rfl, hb2⟩
      have HB2 := Lib.hid (HB.out.trans (hb2.mono HB.out.size))
      clear hb2
      go_wp2_with fail
      go_ret2
      exact ⟨by rw [hsh.out]; rfl, HB2.out⟩
    · have hl' : ¬ (4096 : Int) < (s.size : Int) := by omega
      have hsh := Lib.hid (show showR t.tree = (joinS none t.tree.words, 0) by unfold showR; rw [if_pos HWH.out, if_neg (by omega)])
      clear hT hb hwe hln hpp hRd hj hs hsz hl
      generalize t.tree.words.length = n at *
      go_wp2_with fail
      go_at_call 28
      refine HJ.out.mono ?_
      rintro en w2 ⟨rfl, hb2⟩
      have HB2 := Lib.hid (HB.out.trans (hb2.mono HB.out.size))
      clear hb2
      go_wp2_with fail
      go_ret2
      exact ⟨by rw [hsh.out, HS.out]; rfl, HB2.out⟩

/- Rich dependencies in plain terms: the examples; trees that the call itself lays. -/

def atomT (x : Bytes) : RT := .mk 1 ⟨x, 0, zeroE⟩ []
def awB : Dp := ⟨[98], 6, ⟨0, [49], []⟩⟩
def awT1 : RT := .mk 2 zeroT [atomT [97], .mk 1 awB []]
def awT2 : RT := .mk 4 zeroT [atomT [97], atomT [98], .mk 3 zeroT [atomT [99], atomT [100]]]
def awL1 : Bytes := [40, 97, 32, 97, 110, 100, 32, 98, 32, 62, 61, 32, 49, 41]
def awL2 : Bytes := [97, 32, 105, 102, 32, 98, 32, 101, 108, 115, 101, 32, 40, 99, 32, 111, 114, 32, 100, 41]
theorem aw1 : parseL awL1 = (some awT1, 0, 0) := parseL_some (parseL_iff.2 ⟨by decide +kernel, by decide +kernel, by decide +kernel⟩)
theorem aw2 : showR awT2 = (40 :: (awL2 ++ [41]), 0) := by decide +kernel
theorem aw3 : parseL [40, 40, 97, 41, 41] = (none, 3, 4) := by rfl
theorem aw4 : parseL [40, 97, 32, 97, 110, 100, 32, 98, 32, 111, 114, 32, 99, 41] = (none, 9, 4) := by rfl
theorem aw5 : parseL [97, 32, 98] = (none, 2, 4) := by rfl
theorem atom_wf (x : Bytes) (h : x.length ≤ maxLen) : Dp.wf ⟨x, 0, zeroE⟩ := ⟨h, rfl, rfl, Nat.zero_le _, Nat.zero_le _⟩
def atomR (x : Bytes) : RV := .node 1 ⟨x, 0, zeroE⟩ none 0 []
theorem atomR_tree (x : Bytes) : (atomR x).tree = atomT x := rfl
theorem atomR_rtree (B : Nat) (W : World) (x : Bytes) (h : x.length ≤ maxLen) : RTree B W (atomR x) := .mk (atom_wf x h) (Rd.nil_ (Nat.zero_le _)) (fun a ha => by simp [atomR, RV.args] at ha)
/-- a row that the call itself lays -/
theorem lit_rd {w : World} {l : List RV} {cs : Array Value} {e : TypeId} {n : Nat} (hn : l.length = n) (hcs : cs.toList = l.flatMap encR) (hm : n ≤ maxLen) : Rd encR 7 (w.heap.size + 1) (some ⟨w.heap.size, 0, none⟩) n l (w.alloc (.cells cs e)) := by
  subst hn
  have := Rd.of_block (enc := encR) (size := 7) (cap := l.length) (g := w.heap.size) (l := l) (w := w.alloc (.cells cs e)) (cs := cs) (t := e) (fz := (0, 0)) (fun _ => rfl) (World.alloc_heap_new w _) hcs (Nat.le_refl _) hm
  simpa using this
theorem lit_tree {w : World} {l : List RV} {cs : Array Value} {e : TypeId} {k : Int} {n : Nat} (hn : l.length = n) (hcs : cs.toList = l.flatMap encR) (hm : n ≤ maxLen) (hl : ∀ t ∈ l, RTree w.heap.size w t) : RTree (w.alloc (.cells cs e)).heap.size (w.alloc (.cells cs e)) (.node k zeroT (some ⟨w.heap.size, 0, none⟩) n l) := by
  refine .mk ⟨Nat.zero_le _, rfl, rfl, Nat.zero_le _, Nat.zero_le _⟩ ?_ (fun a ha => ((hl a ha).keeps ((Below.refl _ _).alloc (Nat.le_refl _) _)).more (by simp))
  have := lit_rd (w := w) (e := e) hn hcs hm
  rw [show (w.alloc (.cells cs e)).heap.size = w.heap.size + 1 by simp]
  exact this

/- Walks: an atom of a name (chandlerylaw08.atom). -/
set_option maxRecDepth 100000 in
set_option maxHeartbeats 1000000 in
theorem ratom_any (x : ByteArray) (w : World) : Calls Tryd.prog 9 #[.string x] w fun e w' => e = .returned (.agg #[.int .u8 1, .string x, .int .u8 0, .int .i64 0, .string ⟨#[]⟩, .string ⟨#[]⟩, .slice none 0 0]) ∧ Below w.heap.size w w' := by
  go_enter Tryd.func9, Tryd.ntmps9
  go_wp2_with fail
  exact bodyPost_ret (v := .agg #[.int .u8 1, .string x, .int .u8 0, .int .i64 0, .string ⟨#[]⟩, .string ⟨#[]⟩, .slice none 0 0]) (by simp [results, Tryd.results9, go_sem]) rfl ⟨rfl, (Below.refl _ _).alloc (Nat.le_refl _) _⟩

/- Walks: the examples of the statements of rich (chandlerylaw08.awake). -/

theorem parse_yes (l : Bytes) (t : RT) (h : parseL l = (some t, 0, 0)) (hl : l.length ≤ maxLen) (W : World) (hW : RichIn W) : Calls Tryd.prog 7 #[.string (bs l)] W fun e w' => ∃ rv : RV, rv.tree = t ∧ e = .returned (.tuple #[rv.val, .int .i64 0, .int .i64 0]) ∧ RTree w'.heap.size w' rv ∧ Below W.heap.size W w' := by
  have hp := rparse_any (bs l) W (by rw [bs_size]; exact hl) hW
  unfold ParsePost at hp
  rw [bs_toList, h] at hp
  exact hp
theorem parse_no (l : Bytes) (p : Nat) (n : Int) (h : parseL l = (none, p, n)) (hl : l.length ≤ maxLen) (W : World) (hW : RichIn W) : Calls Tryd.prog 7 #[.string (bs l)] W fun e w' => ∃ rv : RV, rv.tree = zeroRT ∧ e = .returned (.tuple #[rv.val, .int .i64 (p : Int), .int .i64 n]) ∧ RTree w'.heap.size w' rv ∧ Below W.heap.size W w' := by
  have hp := rparse_any (bs l) W (by rw [bs_size]; exact hl) hW
  unfold ParsePost at hp
  rw [bs_toList, h] at hp
  exact hp
theorem keep_aw {m n : Nat} {rv : RV} {w W W' : World} (h : W.cell? ⟨m, 0, none⟩ = some (.int .u8 1) ∧ W.cell? ⟨m, 1, none⟩ = some (.string ⟨#[98]⟩) ∧ W.cell? ⟨m, 2, none⟩ = some (.int .u8 6) ∧ W.cell? ⟨m, 3, none⟩ = some (.int .i64 0) ∧ W.cell? ⟨m, 4, none⟩ = some (.string ⟨#[49]⟩) ∧ W.cell? ⟨m, 5, none⟩ = some (.string ⟨#[]⟩) ∧ W.cell? ⟨m, 6, none⟩ = some (.slice none 0 0) ∧ W.cell? ⟨n, 0, none⟩ = some (.int .u8 rv.kind) ∧ W.cell? ⟨n, 1, none⟩ = some (.string (bs rv.dep.name)) ∧ W.cell? ⟨n, 2, none⟩ = some (.int .u8 rv.dep.op) ∧ W.cell? ⟨n, 3, none⟩ = some (.int .i64 rv.dep.evr.epoch) ∧ W.cell? ⟨n, 4, none⟩ = some (.string (bs rv.dep.evr.ver)) ∧ W.cell? ⟨n, 5, none⟩ = some (.string (bs rv.dep.evr.rel)) ∧ W.cell? ⟨n, 6, none⟩ = some (.slice rv.addr rv.args.length rv.cap) ∧ m < W.heap.size ∧ n < W.heap.size ∧ RTree W.heap.size W rv ∧ Below m w W) (hb : Below W.heap.size W W') : W'.cell? ⟨m, 0, none⟩ = some (.int .u8 1) ∧ W'.cell? ⟨m, 1, none⟩ = some (.string ⟨#[98]⟩) ∧ W'.cell? ⟨m, 2, none⟩ = some (.int .u8 6) ∧ W'.cell? ⟨m, 3, none⟩ = some (.int .i64 0) ∧ W'.cell? ⟨m, 4, none⟩ = some (.string ⟨#[49]⟩) ∧ W'.cell? ⟨m, 5, none⟩ = some (.string ⟨#[]⟩) ∧ W'.cell? ⟨m, 6, none⟩ = some (.slice none 0 0) ∧ W'.cell? ⟨n, 0, none⟩ = some (.int .u8 rv.kind) ∧ W'.cell? ⟨n, 1, none⟩ = some (.string (bs rv.dep.name)) ∧ W'.cell? ⟨n, 2, none⟩ = some (.int .u8 rv.dep.op) ∧ W'.cell? ⟨n, 3, none⟩ = some (.int .i64 rv.dep.evr.epoch) ∧ W'.cell? ⟨n, 4, none⟩ = some (.string (bs rv.dep.evr.ver)) ∧ W'.cell? ⟨n, 5, none⟩ = some (.string (bs rv.dep.evr.rel)) ∧ W'.cell? ⟨n, 6, none⟩ = some (.slice rv.addr rv.args.length rv.cap) ∧ m < W'.heap.size ∧ n < W'.heap.size ∧ RTree W'.heap.size W' rv ∧ Below m w W' := by
  obtain ⟨a0, a1, a2, a3, a4, a5, a6, r0, r1, r2, r3, r4, r5, r6, l0, l1, hR, hB⟩ := h
  have hc : ∀ b i, b < W.heap.size → W'.cell? ⟨b, i, none⟩ = W.cell? ⟨b, i, none⟩ := fun b i h => hb.cell (p := ⟨b, i, none⟩) h
  exact ⟨(hc m 0 l0).trans a0, (hc m 1 l0).trans a1, (hc m 2 l0).trans a2, (hc m 3 l0).trans a3, (hc m 4 l0).trans a4, (hc m 5 l0).trans a5, (hc m 6 l0).trans a6, (hc n 0 l1).trans r0, (hc n 1 l1).trans r1, (hc n 2 l1).trans r2, (hc n 3 l1).trans r3, (hc n 4 l1).trans r4, (hc n 5 l1).trans r5, (hc n 6 l1).trans r6, Nat.lt_of_lt_of_le l0 hb.size, Nat.lt_of_lt_of_le l1 hb.size, (hR.keeps hb).more hb.size, hB.trans (hb.mono (Nat.le_of_lt l0))⟩
def AwCells (g : Nat) (W : World) : Prop := W.cell? ⟨g, 0, none⟩ = some (.string ⟨#[40, 40, 97, 41, 41]⟩) ∧ W.cell? ⟨g, 1, none⟩ = some (.int .i64 3) ∧ W.cell? ⟨g, 2, none⟩ = some (.string ⟨#[40, 97, 32, 97, 110, 100, 32, 98, 32, 111, 114, 32, 99, 41]⟩) ∧ W.cell? ⟨g, 3, none⟩ = some (.int .i64 9) ∧ W.cell? ⟨g, 4, none⟩ = some (.string ⟨#[97, 32, 98]⟩) ∧ W.cell? ⟨g, 5, none⟩ = some (.int .i64 2)
theorem aw_cells {g : Nat} {W W' : World} (h : AwCells g W) (hb : Below W.heap.size W W') (hg : g < W.heap.size) : AwCells g W' := by
  obtain ⟨c0, c1, c2, c3, c4, c5⟩ := h
  have hc : ∀ i, W'.cell? ⟨g, i, none⟩ = W.cell? ⟨g, i, none⟩ := fun i => hb.cell (p := ⟨g, i, none⟩) hg
  exact ⟨(hc 0).trans c0, (hc 1).trans c1, (hc 2).trans c2, (hc 3).trans c3, (hc 4).trans c4, (hc 5).trans c5⟩
theorem same_aw {m n : Nat} {rv : RV} {w W : World} (h : (W.alloc (.cells #[.int .u8 1, .string ⟨#[97]⟩, .int .u8 0, .int .i64 0, .string ⟨#[]⟩, .string ⟨#[]⟩, .slice none 0 0, .int .u8 1, .string ⟨#[98]⟩, .int .u8 6, .int .i64 0, .string ⟨#[49]⟩, .string ⟨#[]⟩, .slice none 0 0] 29)).cell? ⟨m, 0, none⟩ = some (.int .u8 1) ∧ (W.alloc (.cells #[.int .u8 1, .string ⟨#[97]⟩, .int .u8 0, .int .i64 0, .string ⟨#[]⟩, .string ⟨#[]⟩, .slice none 0 0, .int .u8 1, .string ⟨#[98]⟩, .int .u8 6, .int .i64 0, .string ⟨#[49]⟩, .string ⟨#[]⟩, .slice none 0 0] 29)).cell? ⟨m, 1, none⟩ = some (.string ⟨#[98]⟩) ∧ (W.alloc (.cells #[.int .u8 1, .string ⟨#[97]⟩, .int .u8 0, .int .i64 0, .string ⟨#[]⟩, .string ⟨#[]⟩, .slice none 0 0, .int .u8 1, .string ⟨#[98]⟩, .int .u8 6, .int .i64 0, .string ⟨#[49]⟩, .string ⟨#[]⟩, .slice none 0 0] 29)).cell? ⟨m, 2, none⟩ = some (.int .u8 6) ∧ (W.alloc (.cells #[.int .u8 1, .string ⟨#[97]⟩, .int .u8 0, .int .i64 0, .string ⟨#[]⟩, .string ⟨#[]⟩, .slice none 0 0, .int .u8 1, .string ⟨#[98]⟩, .int .u8 6, .int .i64 0, .string ⟨#[49]⟩, .string ⟨#[]⟩, .slice none 0 0] 29)).cell? ⟨m, 3, none⟩ = some (.int .i64 0) ∧ (W.alloc (.cells #[.int .u8 1, .string ⟨#[97]⟩, .int .u8 0, .int .i64 0, .string ⟨#[]⟩, .string ⟨#[]⟩, .slice none 0 0, .int .u8 1, .string ⟨#[98]⟩, .int .u8 6, .int .i64 0, .string ⟨#[49]⟩, .string ⟨#[]⟩, .slice none 0 0] 29)).cell? ⟨m, 4, none⟩ = some (.string ⟨#[49]⟩) ∧ (W.alloc (.cells #[.int .u8 1, .string ⟨#[97]⟩, .int .u8 0, .int .i64 0, .string ⟨#[]⟩, .string ⟨#[]⟩, .slice none 0 0, .int .u8 1, .string ⟨#[98]⟩, .int .u8 6, .int .i64 0, .string ⟨#[49]⟩, .string ⟨#[]⟩, .slice none 0 0] 29)).cell? ⟨m, 5, none⟩ = some (.string ⟨#[]⟩) ∧ (W.alloc (.cells #[.int .u8 1, .string ⟨#[97]⟩, .int .u8 0, .int .i64 0, .string ⟨#[]⟩, .string ⟨#[]⟩, .slice none 0 0, .int .u8 1, .string ⟨#[98]⟩, .int .u8 6, .int .i64 0, .string ⟨#[49]⟩, .string ⟨#[]⟩, .slice none 0 0] 29)).cell? ⟨m, 6, none⟩ = some (.slice none 0 0) ∧ (W.alloc (.cells #[.int .u8 1, .string ⟨#[97]⟩, .int .u8 0, .int .i64 0, .string ⟨#[]⟩, .string ⟨#[]⟩, .slice none 0 0, .int .u8 1, .string ⟨#[98]⟩, .int .u8 6, .int .i64 0, .string ⟨#[49]⟩, .string ⟨#[]⟩, .slice none 0 0] 29)).cell? ⟨n, 0, none⟩ = some (.int .u8 rv.kind) ∧ (W.alloc (.cells #[.int .u8 1, .string ⟨#[97]⟩, .int .u8 0, .int .i64 0, .string ⟨#[]⟩, .string ⟨#[]⟩, .slice none 0 0, .int .u8 1, .string ⟨#[98]⟩, .int .u8 6, .int .i64 0, .string ⟨#[49]⟩, .string ⟨#[]⟩, .slice none 0 0] 29)).cell? ⟨n, 1, none⟩ = some (.string (bs rv.dep.name)) ∧ (W.alloc (.cells #[.int .u8 1, .string ⟨#[97]⟩, .int .u8 0, .int .i64 0, .string ⟨#[]⟩, .string ⟨#[]⟩, .slice none 0 0, .int .u8 1, .string ⟨#[98]⟩, .int .u8 6, .int .i64 0, .string ⟨#[49]⟩, .string ⟨#[]⟩, .slice none 0 0] 29)).cell? ⟨n, 2, none⟩ = some (.int .u8 rv.dep.op) ∧ (W.alloc (.cells #[.int .u8 1, .string ⟨#[97]⟩, .int .u8 0, .int .i64 0, .string ⟨#[]⟩, .string ⟨#[]⟩, .slice none 0 0, .int .u8 1, .string ⟨#[98]⟩, .int .u8 6, .int .i64 0, .string ⟨#[49]⟩, .string ⟨#[]⟩, .slice none 0 0] 29)).cell? ⟨n, 3, none⟩ = some (.int .i64 rv.dep.evr.epoch) ∧ (W.alloc (.cells #[.int .u8 1, .string ⟨#[97]⟩, .int .u8 0, .int .i64 0, .string ⟨#[]⟩, .string ⟨#[]⟩, .slice none 0 0, .int .u8 1, .string ⟨#[98]⟩, .int .u8 6, .int .i64 0, .string ⟨#[49]⟩, .string ⟨#[]⟩, .slice none 0 0] 29)).cell? ⟨n, 4, none⟩ = some (.string (bs rv.dep.evr.ver)) ∧ (W.alloc (.cells #[.int .u8 1, .string ⟨#[97]⟩, .int .u8 0, .int .i64 0, .string ⟨#[]⟩, .string ⟨#[]⟩, .slice none 0 0, .int .u8 1, .string ⟨#[98]⟩, .int .u8 6, .int .i64 0, .string ⟨#[49]⟩, .string ⟨#[]⟩, .slice none 0 0] 29)).cell? ⟨n, 5, none⟩ = some (.string (bs rv.dep.evr.rel)) ∧ (W.alloc (.cells #[.int .u8 1, .string ⟨#[97]⟩, .int .u8 0, .int .i64 0, .string ⟨#[]⟩, .string ⟨#[]⟩, .slice none 0 0, .int .u8 1, .string ⟨#[98]⟩, .int .u8 6, .int .i64 0, .string ⟨#[49]⟩, .string ⟨#[]⟩, .slice none 0 0] 29)).cell? ⟨n, 6, none⟩ = some (.slice rv.addr rv.args.length rv.cap) ∧ m < (W.alloc (.cells #[.int .u8 1, .string ⟨#[97]⟩, .int .u8 0, .int .i64 0, .string ⟨#[]⟩, .string ⟨#[]⟩, .slice none 0 0, .int .u8 1, .string ⟨#[98]⟩, .int .u8 6, .int .i64 0, .string ⟨#[49]⟩, .string ⟨#[]⟩, .slice none 0 0] 29)).heap.size ∧ n < (W.alloc (.cells #[.int .u8 1, .string ⟨#[97]⟩, .int .u8 0, .int .i64 0, .string ⟨#[]⟩, .string ⟨#[]⟩, .slice none 0 0, .int .u8 1, .string ⟨#[98]⟩, .int .u8 6, .int .i64 0, .string ⟨#[49]⟩, .string ⟨#[]⟩, .slice none 0 0] 29)).heap.size ∧ RTree (W.alloc (.cells #[.int .u8 1, .string ⟨#[97]⟩, .int .u8 0, .int .i64 0, .string ⟨#[]⟩, .string ⟨#[]⟩, .slice none 0 0, .int .u8 1, .string ⟨#[98]⟩, .int .u8 6, .int .i64 0, .string ⟨#[49]⟩, .string ⟨#[]⟩, .slice none 0 0] 29)).heap.size (W.alloc (.cells #[.int .u8 1, .string ⟨#[97]⟩, .int .u8 0, .int .i64 0, .string ⟨#[]⟩, .string ⟨#[]⟩, .slice none 0 0, .int .u8 1, .string ⟨#[98]⟩, .int .u8 6, .int .i64 0, .string ⟨#[49]⟩, .string ⟨#[]⟩, .slice none 0 0] 29)) rv ∧ Below m w (W.alloc (.cells #[.int .u8 1, .string ⟨#[97]⟩, .int .u8 0, .int .i64 0, .string ⟨#[]⟩, .string ⟨#[]⟩, .slice none 0 0, .int .u8 1, .string ⟨#[98]⟩, .int .u8 6, .int .i64 0, .string ⟨#[49]⟩, .string ⟨#[]⟩, .slice none 0 0] 29))) (hrt : rv.tree = awT1) : Calls Tryd.prog 31 #[.agg #[.int .u8 rv.kind, .string (bs rv.dep.name), .int .u8 rv.dep.op, .int .i64 rv.dep.evr.epoch, .string (bs rv.dep.evr.ver), .string (bs rv.dep.evr.rel), .slice rv.addr rv.args.length rv.cap], .agg #[.int .u8 2, .string ⟨#[]⟩, .int .u8 0, .int .i64 0, .string ⟨#[]⟩, .string ⟨#[]⟩, .slice (some ⟨W.heap.size, 0, none⟩) 2 2]] (W.alloc (.cells #[.int .u8 1, .string ⟨#[97]⟩, .int .u8 0, .int .i64 0, .string ⟨#[]⟩, .string ⟨#[]⟩, .slice none 0 0, .int .u8 1, .string ⟨#[98]⟩, .int .u8 6, .int .i64 0, .string ⟨#[49]⟩, .string ⟨#[]⟩, .slice none 0 0] 29)) fun e w' => e = .returned (.bool true) ∧ Below (W.alloc (.cells #[.int .u8 1, .string ⟨#[97]⟩, .int .u8 0, .int .i64 0, .string ⟨#[]⟩, .string ⟨#[]⟩, .slice none 0 0, .int .u8 1, .string ⟨#[98]⟩, .int .u8 6, .int .i64 0, .string ⟨#[49]⟩, .string ⟨#[]⟩, .slice none 0 0] 29)).heap.size (W.alloc (.cells #[.int .u8 1, .string ⟨#[97]⟩, .int .u8 0, .int .i64 0, .string ⟨#[]⟩, .string ⟨#[]⟩, .slice none 0 0, .int .u8 1, .string ⟨#[98]⟩, .int .u8 6, .int .i64 0, .string ⟨#[49]⟩, .string ⟨#[]⟩, .slice none 0 0] 29)) w' := by
  have hR := h.2.2.2.2.2.2.2.2.2.2.2.2.2.2.2.2.1
  have hT : RTree (W.alloc (.cells #[.int .u8 1, .string ⟨#[97]⟩, .int .u8 0, .int .i64 0, .string ⟨#[]⟩, .string ⟨#[]⟩, .slice none 0 0, .int .u8 1, .string ⟨#[98]⟩, .int .u8 6, .int .i64 0, .string ⟨#[49]⟩, .string ⟨#[]⟩, .slice none 0 0] 29)).heap.size (W.alloc (.cells #[.int .u8 1, .string ⟨#[97]⟩, .int .u8 0, .int .i64 0, .string ⟨#[]⟩, .string ⟨#[]⟩, .slice none 0 0, .int .u8 1, .string ⟨#[98]⟩, .int .u8 6, .int .i64 0, .string ⟨#[49]⟩, .string ⟨#[]⟩, .slice none 0 0] 29)) (.node 2 zeroT (some ⟨W.heap.size, 0, none⟩) 2 [atomR [97], .node 1 awB none 0 []]) := lit_tree rfl rfl (by decide) (fun t ht => by
    simp only [List.mem_cons, List.not_mem_nil, or_false] at ht
    rcases ht with rfl | rfl
    · exact atomR_rtree _ _ _ (by decide)
    · exact .mk ⟨by decide, rfl, rfl, by decide, by decide⟩ (Rd.nil_ (Nat.zero_le _)) (fun a ha => by simp [RV.args] at ha))
  have hs := rsame_any rv.ht rv _ _ (Nat.le_refl _) hR hT
  rw [hrt, show (RV.node 2 zeroT (some ⟨W.heap.size, 0, none⟩) 2 [atomR [97], .node 1 awB none 0 []]).tree = awT1 from rfl, sameT_self] at hs
  exact hs
set_option maxRecDepth 100000 in
set_option maxHeartbeats 16000000 in
theorem rawake (w : World) (hI : RichIn w) : Calls Tryd.prog 12 #[] w fun e w' => e = .returned (.bool true) ∧ Below w.heap.size w w' := by
  have HI := Lib.hid hI
  have P1 := Lib.hid (fun W hW => parse_yes awL1 awT1 aw1 (by decide) W hW)
  have P3 := Lib.hid (fun W hW => parse_no _ _ _ aw3 (by decide) W hW)
  have P4 := Lib.hid (fun W hW => parse_no _ _ _ aw4 (by decide) W hW)
  have P5 := Lib.hid (fun W hW => parse_no _ _ _ aw5 (by decide) W hW)
  unfold RV.val at P1 P3 P4 P5
  clear hI
  go_enter Tryd.func12, Tryd.ntmps12
  go_wp2_with fail
  go_at_call 7
  refine (P1.out _ (HI.out.below ((Below.refl _ _).alloc (Nat.le_refl _) _))).mono ?_
  rintro en w1 ⟨rv, hrt, rfl, hT1, hb1⟩
  have HRT := Lib.hid hrt
  have HB1 := Lib.hid (((Below.refl w.heap.size w).alloc (Nat.le_refl _) _).trans (hb1.mono (by simp)))
  have HT1 := Lib.hid hT1
  have XB := Lib.hid ((Box7.new w (.int .u8 1) (.string ⟨#[98]⟩) (.int .u8 6) (.int .i64 0) (.string ⟨#[49]⟩) (.string ⟨#[]⟩) (.slice none 0 0) 29).past (hb1.mono (by simp)))
  have S1 : Hid ((w1.alloc (.cells #[.int .u8 rv.kind, .string (bs rv.dep.name), .int .u8 rv.dep.op, .int .i64 rv.dep.evr.epoch, .string (bs rv.dep.evr.ver), .string (bs rv.dep.evr.rel), .slice rv.addr rv.args.length rv.cap] 29)).cell? ⟨w.heap.size, 0, none⟩ = some (.int .u8 1) ∧ (w1.alloc (.cells #[.int .u8 rv.kind, .string (bs rv.dep.name), .int .u8 rv.dep.op, .int .i64 rv.dep.evr.epoch, .string (bs rv.dep.evr.ver), .string (bs rv.dep.evr.rel), .slice rv.addr rv.args.length rv.cap] 29)).cell? ⟨w.heap.size, 1, none⟩ = some (.string ⟨#[98]⟩) ∧ (w1.alloc (.cells #[.int .u8 rv.kind, .string (bs rv.dep.name), .int .u8 rv.dep.op, .int .i64 rv.dep.evr.epoch, .string (bs rv.dep.evr.ver), .string (bs rv.dep.evr.rel), .slice rv.addr rv.args.length rv.cap] 29)).cell? ⟨w.heap.size, 2, none⟩ = some (.int .u8 6) ∧ (w1.alloc (.cells #[.int .u8 rv.kind, .string (bs rv.dep.name), .int .u8 rv.dep.op, .int .i64 rv.dep.evr.epoch, .string (bs rv.dep.evr.ver), .string (bs rv.dep.evr.rel), .slice rv.addr rv.args.length rv.cap] 29)).cell? ⟨w.heap.size, 3, none⟩ = some (.int .i64 0) ∧ (w1.alloc (.cells #[.int .u8 rv.kind, .string (bs rv.dep.name), .int .u8 rv.dep.op, .int .i64 rv.dep.evr.epoch, .string (bs rv.dep.evr.ver), .string (bs rv.dep.evr.rel), .slice rv.addr rv.args.length rv.cap] 29)).cell? ⟨w.heap.size, 4, none⟩ = some (.string ⟨#[49]⟩) ∧ (w1.alloc (.cells #[.int .u8 rv.kind, .string (bs rv.dep.name), .int .u8 rv.dep.op, .int .i64 rv.dep.evr.epoch, .string (bs rv.dep.evr.ver), .string (bs rv.dep.evr.rel), .slice rv.addr rv.args.length rv.cap] 29)).cell? ⟨w.heap.size, 5, none⟩ = some (.string ⟨#[]⟩) ∧ (w1.alloc (.cells #[.int .u8 rv.kind, .string (bs rv.dep.name), .int .u8 rv.dep.op, .int .i64 rv.dep.evr.epoch, .string (bs rv.dep.evr.ver), .string (bs rv.dep.evr.rel), .slice rv.addr rv.args.length rv.cap] 29)).cell? ⟨w.heap.size, 6, none⟩ = some (.slice none 0 0) ∧ (w1.alloc (.cells #[.int .u8 rv.kind, .string (bs rv.dep.name), .int .u8 rv.dep.op, .int .i64 rv.dep.evr.epoch, .string (bs rv.dep.evr.ver), .string (bs rv.dep.evr.rel), .slice rv.addr rv.args.length rv.cap] 29)).cell? ⟨w1.heap.size, 0, none⟩ = some (.int .u8 rv.kind) ∧ (w1.alloc (.cells #[.int .u8 rv.kind, .string (bs rv.dep.name), .int .u8 rv.dep.op, .int .i64 rv.dep.evr.epoch, .string (bs rv.dep.evr.ver), .string (bs rv.dep.evr.rel), .slice rv.addr rv.args.length rv.cap] 29)).cell? ⟨w1.heap.size, 1, none⟩ = some (.string (bs rv.dep.name)) ∧ (w1.alloc (.cells #[.int .u8 rv.kind, .string (bs rv.dep.name), .int .u8 rv.dep.op, .int .i64 rv.dep.evr.epoch, .string (bs rv.dep.evr.ver), .string (bs rv.dep.evr.rel), .slice rv.addr rv.args.length rv.cap] 29)).cell? ⟨w1.heap.size, 2, none⟩ = some (.int .u8 rv.dep.op) ∧ (w1.alloc (.cells #[.int .u8 rv.kind, .string (bs rv.dep.name), .int .u8 rv.dep.op, .int .i64 rv.dep.evr.epoch, .string (bs rv.dep.evr.ver), .string (bs rv.dep.evr.rel), .slice rv.addr rv.args.length rv.cap] 29)).cell? ⟨w1.heap.size, 3, none⟩ = some (.int .i64 rv.dep.evr.epoch) ∧ (w1.alloc (.cells #[.int .u8 rv.kind, .string (bs rv.dep.name), .int .u8 rv.dep.op, .int .i64 rv.dep.evr.epoch, .string (bs rv.dep.evr.ver), .string (bs rv.dep.evr.rel), .slice rv.addr rv.args.length rv.cap] 29)).cell? ⟨w1.heap.size, 4, none⟩ = some (.string (bs rv.dep.evr.ver)) ∧ (w1.alloc (.cells #[.int .u8 rv.kind, .string (bs rv.dep.name), .int .u8 rv.dep.op, .int .i64 rv.dep.evr.epoch, .string (bs rv.dep.evr.ver), .string (bs rv.dep.evr.rel), .slice rv.addr rv.args.length rv.cap] 29)).cell? ⟨w1.heap.size, 5, none⟩ = some (.string (bs rv.dep.evr.rel)) ∧ (w1.alloc (.cells #[.int .u8 rv.kind, .string (bs rv.dep.name), .int .u8 rv.dep.op, .int .i64 rv.dep.evr.epoch, .string (bs rv.dep.evr.ver), .string (bs rv.dep.evr.rel), .slice rv.addr rv.args.length rv.cap] 29)).cell? ⟨w1.heap.size, 6, none⟩ = some (.slice rv.addr rv.args.length rv.cap) ∧ w.heap.size < (w1.alloc (.cells #[.int .u8 rv.kind, .string (bs rv.dep.name), .int .u8 rv.dep.op, .int .i64 rv.dep.evr.epoch, .string (bs rv.dep.evr.ver), .string (bs rv.dep.evr.rel), .slice rv.addr rv.args.length rv.cap] 29)).heap.size ∧ w1.heap.size < (w1.alloc (.cells #[.int .u8 rv.kind, .string (bs rv.dep.name), .int .u8 rv.dep.op, .int .i64 rv.dep.evr.epoch, .string (bs rv.dep.evr.ver), .string (bs rv.dep.evr.rel), .slice rv.addr rv.args.length rv.cap] 29)).heap.size ∧ RTree (w1.alloc (.cells #[.int .u8 rv.kind, .string (bs rv.dep.name), .int .u8 rv.dep.op, .int .i64 rv.dep.evr.epoch, .string (bs rv.dep.evr.ver), .string (bs rv.dep.evr.rel), .slice rv.addr rv.args.length rv.cap] 29)).heap.size (w1.alloc (.cells #[.int .u8 rv.kind, .string (bs rv.dep.name), .int .u8 rv.dep.op, .int .i64 rv.dep.evr.epoch, .string (bs rv.dep.evr.ver), .string (bs rv.dep.evr.rel), .slice rv.addr rv.args.length rv.cap] 29)) rv ∧ Below w.heap.size w (w1.alloc (.cells #[.int .u8 rv.kind, .string (bs rv.dep.name), .int .u8 rv.dep.op, .int .i64 rv.dep.evr.epoch, .string (bs rv.dep.evr.ver), .string (bs rv.dep.evr.rel), .slice rv.addr rv.args.length rv.cap] 29))) := Lib.hid ((by
    obtain ⟨⟨a0, a1, a2, a3, a4, a5, a6⟩, _, bl⟩ := XB.out.past ((Below.refl _ _).alloc (Nat.le_refl _) (.cells #[.int .u8 rv.kind, .string (bs rv.dep.name), .int .u8 rv.dep.op, .int .i64 rv.dep.evr.epoch, .string (bs rv.dep.evr.ver), .string (bs rv.dep.evr.rel), .slice rv.addr rv.args.length rv.cap] 29) |>.mono XB.out.2.2)
    obtain ⟨⟨r0, r1, r2, r3, r4, r5, r6⟩, _, rl⟩ := Box7.new w1 (.int .u8 rv.kind) (.string (bs rv.dep.name)) (.int .u8 rv.dep.op) (.int .i64 rv.dep.evr.epoch) (.string (bs rv.dep.evr.ver)) (.string (bs rv.dep.evr.rel)) (.slice rv.addr rv.args.length rv.cap) 29
    exact ⟨a0, a1, a2, a3, a4, a5, a6, r0, r1, r2, r3, r4, r5, r6, bl, rl, (HT1.out.keeps ((Below.refl _ _).alloc (Nat.le_refl _) _)).more (by simp), HB1.out.alloc HB1.out.size _⟩))
  clear hb1 hT1 hrt XB
  go_wp2_with fail
  go_at_call 9
  refine (ratom_any _ _).mono ?_
  rintro en w2 ⟨rfl, hb2⟩
  have S2 := Lib.hid (keep_aw S1.out hb2)
  clear hb2 S1
  go_wp2_with fail
  go_at_call 9
  refine (ratom_any _ _).mono ?_
  rintro en w3 ⟨rfl, hb3⟩
  have S3 := Lib.hid (keep_aw S2.out hb3)
  clear hb3 S2
  go_wp2_with fail
  go_at_call 9
  refine (ratom_any _ _).mono ?_
  rintro en w4 ⟨rfl, hb4⟩
  have S4 := Lib.hid (keep_aw S3.out hb4)
  clear hb4 S3
  go_wp2_with fail
  go_at_call 9
  refine (ratom_any _ _).mono ?_
  rintro en w5 ⟨rfl, hb5⟩
  have S5 := Lib.hid (keep_aw S4.out hb5)
  clear hb5 S4
  have z5 : (w5.alloc (.cells #[.int .u8 1, .string ⟨#[99]⟩, .int .u8 0, .int .i64 0, .string ⟨#[]⟩, .string ⟨#[]⟩, .slice none 0 0, .int .u8 1, .string ⟨#[100]⟩, .int .u8 0, .int .i64 0, .string ⟨#[]⟩, .string ⟨#[]⟩, .slice none 0 0] 29)).heap.size = w5.heap.size + 1 := by simp
  have T1 : RTree (w5.alloc (.cells #[.int .u8 1, .string ⟨#[99]⟩, .int .u8 0, .int .i64 0, .string ⟨#[]⟩, .string ⟨#[]⟩, .slice none 0 0, .int .u8 1, .string ⟨#[100]⟩, .int .u8 0, .int .i64 0, .string ⟨#[]⟩, .string ⟨#[]⟩, .slice none 0 0] 29)).heap.size (w5.alloc (.cells #[.int .u8 1, .string ⟨#[99]⟩, .int .u8 0, .int .i64 0, .string ⟨#[]⟩, .string ⟨#[]⟩, .slice none 0 0, .int .u8 1, .string ⟨#[100]⟩, .int .u8 0, .int .i64 0, .string ⟨#[]⟩, .string ⟨#[]⟩, .slice none 0 0] 29)) (.node 3 zeroT (some ⟨w5.heap.size, 0, none⟩) 2 [atomR [99], atomR [100]]) := lit_tree rfl rfl (by decide) (fun t ht => by
    simp only [List.mem_cons, List.not_mem_nil, or_false] at ht
    rcases ht with rfl | rfl <;> exact atomR_rtree _ _ _ (by decide))
  have T2 := lit_tree (w := w5.alloc (.cells #[.int .u8 1, .string ⟨#[99]⟩, .int .u8 0, .int .i64 0, .string ⟨#[]⟩, .string ⟨#[]⟩, .slice none 0 0, .int .u8 1, .string ⟨#[100]⟩, .int .u8 0, .int .i64 0, .string ⟨#[]⟩, .string ⟨#[]⟩, .slice none 0 0] 29)) (e := 29) (k := 4) (n := 3) (l := [atomR [97], atomR [98], .node 3 zeroT (some ⟨w5.heap.size, 0, none⟩) 2 [atomR [99], atomR [100]]]) (cs := #[.int .u8 1, .string ⟨#[97]⟩, .int .u8 0, .int .i64 0, .string ⟨#[]⟩, .string ⟨#[]⟩, .slice none 0 0, .int .u8 1, .string ⟨#[98]⟩, .int .u8 0, .int .i64 0, .string ⟨#[]⟩, .string ⟨#[]⟩, .slice none 0 0, .int .u8 3, .string ⟨#[]⟩, .int .u8 0, .int .i64 0, .string ⟨#[]⟩, .string ⟨#[]⟩, .slice (some ⟨w5.heap.size, 0, none⟩) 2 2]) rfl rfl (by decide) (fun t ht => by
    simp only [List.mem_cons, List.not_mem_nil, or_false] at ht
    rcases ht with rfl | rfl | rfl
    · exact atomR_rtree _ _ _ (by decide)
    · exact atomR_rtree _ _ _ (by decide)
    · exact T1)
  rw [z5] at T2
  have hB5 := S5.out.2.2.2.2.2.2.2.2.2.2.2.2.2.2.2.2.2
  have hz5 : w.heap.size ≤ w5.heap.size := hB5.size
  have hsh := rshow_any _ _ (by show awT2.parts ≤ 1000000; decide +kernel) T2 (HI.out.below ((hB5.alloc hz5 _).alloc (by omega) _))
  rw [show (RV.node 4 zeroT (some ⟨w5.heap.size + 1, 0, none⟩) 3 [atomR [97], atomR [98], .node 3 zeroT (some ⟨w5.heap.size, 0, none⟩) 2 [atomR [99], atomR [100]]]).tree = awT2 from rfl, aw2] at hsh
  obtain ⟨st, hst⟩ : ∃ st, st = bs (40 :: (awL2 ++ [41])) := ⟨_, rfl⟩
  have hsl : (st.toList == [40, 97, 32, 105, 102, 32, 98, 32, 101, 108, 115, 101, 32, 40, 99, 32, 111, 114, 32, 100, 41, 41]) = true := by rw [hst, bs_toList]; rfl
  have hsn : (st.toList != [40, 97, 32, 105, 102, 32, 98, 32, 101, 108, 115, 101, 32, 40, 99, 32, 111, 114, 32, 100, 41, 41]) = false := by simp only [bne, hsl, Bool.not_true]
  dsimp only at hsh
  rw [← hst] at hsh
  have HSH := Lib.hid hsh
  clear hsh T1 T2 hst hB5 z5
  go_wp2_with fail
  go_at_call 8
  refine HSH.out.mono ?_
  rintro en w6 ⟨rfl, hb6⟩
  have S6 := Lib.hid (keep_aw (keep_aw (keep_aw S5.out ((Below.refl _ _).alloc (Nat.le_refl _) _)) ((Below.refl _ _).alloc (Nat.le_refl _) _)) hb6)
  clear hb6 S5 HSH
  have S6' := S6.out
  have HRTS := HRT
  go_wp2_with fail
  go_region_held3 (fun W => W.cell? ⟨w.heap.size, 0, none⟩ = some (.int .u8 1) ∧ W.cell? ⟨w.heap.size, 1, none⟩ = some (.string ⟨#[98]⟩) ∧ W.cell? ⟨w.heap.size, 2, none⟩ = some (.int .u8 6) ∧ W.cell? ⟨w.heap.size, 3, none⟩ = some (.int .i64 0) ∧ W.cell? ⟨w.heap.size, 4, none⟩ = some (.string ⟨#[49]⟩) ∧ W.cell? ⟨w.heap.size, 5, none⟩ = some (.string ⟨#[]⟩) ∧ W.cell? ⟨w.heap.size, 6, none⟩ = some (.slice none 0 0) ∧ W.cell? ⟨w1.heap.size, 0, none⟩ = some (.int .u8 rv.kind) ∧ W.cell? ⟨w1.heap.size, 1, none⟩ = some (.string (bs rv.dep.name)) ∧ W.cell? ⟨w1.heap.size, 2, none⟩ = some (.int .u8 rv.dep.op) ∧ W.cell? ⟨w1.heap.size, 3, none⟩ = some (.int .i64 rv.dep.evr.epoch) ∧ W.cell? ⟨w1.heap.size, 4, none⟩ = some (.string (bs rv.dep.evr.ver)) ∧ W.cell? ⟨w1.heap.size, 5, none⟩ = some (.string (bs rv.dep.evr.rel)) ∧ W.cell? ⟨w1.heap.size, 6, none⟩ = some (.slice rv.addr rv.args.length rv.cap) ∧ w.heap.size < W.heap.size ∧ w1.heap.size < W.heap.size ∧ RTree W.heap.size W rv ∧ Below w.heap.size w W) (first | exact keep_aw (by assumption) hbb | exact keep_aw (by assumption) ((Below.refl _ _).alloc (Nat.le_refl _) _) | exact keep_aw S6' (Below.refl _ _).drew) (first | (go_at_call 9; ((with_reducible refine (ratom_any _ _).mono ?_); rintro e' w' ⟨rfl, hbb⟩)) | (go_at_call 31; (refine (same_aw (by assumption) HRT.out).mono ?_; rintro e' w' ⟨rfl, hbb⟩)))
  rename_i hh
  have hB7 := hh.2.2.2.2.2.2.2.2.2.2.2.2.2.2.2.2.2
  have HB7 := Lib.hid hB7
  have HZ7 := Lib.hid (hB7.size)
  clear hh hbb S6 S6' hB7
  go_wp2_with fail
  go_loopw [56] (fun iv wr => ∃ k : Nat, k ≤ 3 ∧ iv = .int .i64 (k : Int) ∧ AwCells w'.heap.size wr ∧ w'.heap.size < wr.heap.size ∧ Below w.heap.size w wr) (fun iv _ => 3 - (intOf iv).toNat)
  case atStart => exact ⟨0, by omega, rfl, ⟨(World.cell?_alloc_at _ _ _ _ rfl).trans rfl, (World.cell?_alloc_at _ _ _ _ rfl).trans rfl, (World.cell?_alloc_at _ _ _ _ rfl).trans rfl, (World.cell?_alloc_at _ _ _ _ rfl).trans rfl, (World.cell?_alloc_at _ _ _ _ rfl).trans rfl, (World.cell?_alloc_at _ _ _ _ rfl).trans rfl⟩, by simp, HB7.out.alloc HZ7.out _⟩
  case round =>
    obtain ⟨k, hk, rfl, cs, hg, hB⟩ := hrel
    rename World => wr
    obtain ⟨c0, c1, c2, c3, c4, c5⟩ := id cs
    by_cases hlt : k < 3
    · obtain rfl | rfl | rfl : k = 0 ∨ k = 1 ∨ k = 2 := by omega
      · go_wp2_with fail
        go_at_call 7
        refine (P3.out _ (HI.out.below (hB.alloc hB.size _))).mono ?_
        rintro en w8 ⟨rv2, _, rfl, _, hb8⟩
        have f1 := (hb8.cell (p := ⟨wr.heap.size, 1, none⟩) (by simp)).trans ((World.cell?_alloc_at _ _ _ _ rfl).trans rfl)
        have HB8 := Lib.hid (((Below.refl wr.heap.size wr).alloc (Nat.le_refl _) (.cells #[.string ⟨#[40, 40, 97, 41, 41]⟩, .int .i64 3] 35)).trans (hb8.mono (by simp)))
        have hz9 : wr.heap.size < w8.heap.size := by have := hb8.size; simp at this; omega
        have f2 : ∀ ob : Obj, (w8.alloc ob).cell? ⟨wr.heap.size, 1, none⟩ = some (.int .i64 3) := fun ob => (World.cell?_alloc_lt w8 ob ⟨wr.heap.size, 1, none⟩ hz9).trans f1
        clear hb8
        have hz8 := HB8.out.size
        go_wp2_with fail
        go_roundw
        case rel => exact ⟨1, by omega, by go_num, aw_cells cs ((HB8.out.mono (Nat.le_refl _)).alloc hz8 _) hg, by simp; omega, (hB.trans (HB8.out.mono hB.size)).alloc (Nat.le_trans hB.size hz8) _⟩
        case measure => simp [intOf]
      · go_wp2_with fail
        go_at_call 7
        refine (P4.out _ (HI.out.below (hB.alloc hB.size _))).mono ?_
        rintro en w8 ⟨rv2, _, rfl, _, hb8⟩
        have f1 := (hb8.cell (p := ⟨wr.heap.size, 1, none⟩) (by simp)).trans ((World.cell?_alloc_at _ _ _ _ rfl).trans rfl)
        have HB8 := Lib.hid (((Below.refl wr.heap.size wr).alloc (Nat.le_refl _) (.cells #[.string ⟨#[40, 97, 32, 97, 110, 100, 32, 98, 32, 111, 114, 32, 99, 41]⟩, .int .i64 9] 35)).trans (hb8.mono (by simp)))
        have hz9 : wr.heap.size < w8.heap.size := by have := hb8.size; simp at this; omega
        have f2 : ∀ ob : Obj, (w8.alloc ob).cell? ⟨wr.heap.size, 1, none⟩ = some (.int .i64 9) := fun ob => (World.cell?_alloc_lt w8 ob ⟨wr.heap.size, 1, none⟩ hz9).trans f1
        clear hb8
        have hz8 := HB8.out.size
        go_wp2_with fail
        go_roundw
        case rel => exact ⟨2, by omega, by go_num, aw_cells cs ((HB8.out.mono (Nat.le_refl _)).alloc hz8 _) hg, by simp; omega, (hB.trans (HB8.out.mono hB.size)).alloc (Nat.le_trans hB.size hz8) _⟩
        case measure => simp [intOf]
      · go_wp2_with fail
        go_at_call 7
        refine (P5.out _ (HI.out.below (hB.alloc hB.size _))).mono ?_
        rintro en w8 ⟨rv2, _, rfl, _, hb8⟩
        have f1 := (hb8.cell (p := ⟨wr.heap.size, 1, none⟩) (by simp)).trans ((World.cell?_alloc_at _ _ _ _ rfl).trans rfl)
        have HB8 := Lib.hid (((Below.refl wr.heap.size wr).alloc (Nat.le_refl _) (.cells #[.string ⟨#[97, 32, 98]⟩, .int .i64 2] 35)).trans (hb8.mono (by simp)))
        have hz9 : wr.heap.size < w8.heap.size := by have := hb8.size; simp at this; omega
        have f2 : ∀ ob : Obj, (w8.alloc ob).cell? ⟨wr.heap.size, 1, none⟩ = some (.int .i64 2) := fun ob => (World.cell?_alloc_lt w8 ob ⟨wr.heap.size, 1, none⟩ hz9).trans f1
        clear hb8
        have hz8 := HB8.out.size
        go_wp2_with fail
        go_roundw
        case rel => exact ⟨3, by omega, by go_num, aw_cells cs ((HB8.out.mono (Nat.le_refl _)).alloc hz8 _) hg, by simp; omega, (hB.trans (HB8.out.mono hB.size)).alloc (Nat.le_trans hB.size hz8) _⟩
        case measure => simp [intOf]
    · obtain rfl : k = 3 := by omega
      go_wp2_with fail
      go_ret
      exact ⟨rfl, hB⟩
end Go.Proofs.YtpnnhhgojijlbaaDoor
