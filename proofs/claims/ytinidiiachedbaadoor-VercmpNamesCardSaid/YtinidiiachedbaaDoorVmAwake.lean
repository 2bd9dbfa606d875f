/- Walks: the statements of vercmp: what each asks first (awake, long). -/
import Derived.Test.YtinidiiachedbaaDoorVmTexts
namespace Go.Proofs.YtinidiiachedbaaDoor
open Go.RowKit Go.Shelf

theorem cmp_lit (W : World) (p q : ByteArray) (r : Int) (h : comp p.toList q.toList = r) (hs : (decide (p.size ≤ 1000000) && decide (q.size ≤ 1000000)) = true) :
    Calls Tryd.prog 15 #[.string p, .string q] W fun e w' => e = .returned (.int .i64 r) ∧ Below W.heap.size W w' := by
  simp only [Bool.and_eq_true, decide_eq_true_eq] at hs
  subst h
  exact comp_any p q W hs.1 hs.2
theorem rowS_lit (w : World) (D : List ByteArray) (h2 : D.length ≤ maxLen) : RowS (w.alloc (.cells (D.map Value.string).toArray 9)) w.heap.size D := by
  have h := World.ownsRow_lit (base := w.heap.size) (e := 9) (size := 1) w (D.map Value.string).toArray D.length (Nat.le_refl _) h2 (by simp)
  refine ⟨by simp, fun k hk => ⟨?_, World.ownsRow.frozenAt h k⟩⟩
  rw [World.ownsRow.cellAt h k (by omega)]
  simp [List.getElem?_eq_getElem hk]
def rowA : List ByteArray := [⟨#[50]⟩, ⟨#[49, 95, 48]⟩, ⟨#[49, 46, 48]⟩]
def rowB : List ByteArray := [⟨#[49, 95, 48]⟩, ⟨#[49, 46, 48]⟩, ⟨#[50]⟩]
theorem sorted3 : rs ltS rowA = rowB := by
  have h1 : ltS ⟨#[49, 95, 48]⟩ ⟨#[50]⟩ = true := by decide +kernel
  have h2 : ltS ⟨#[49, 46, 48]⟩ ⟨#[49, 95, 48]⟩ = false := by decide +kernel
  have h3 : ltS ⟨#[49, 46, 48]⟩ ⟨#[50]⟩ = true := by decide +kernel
  unfold rs rowA rowB
  simp only [List.foldl_cons, List.foldl_nil, mg_nil, mg_cons, mg_nil', h1, h2, h3, if_true, if_false, Bool.false_eq_true]
theorem sort_lit (W : World) : Calls Tryd.prog 12 #[.slice (some ⟨W.heap.size, 0, none⟩) 3 3] (W.alloc (.cells #[.string ⟨#[50]⟩, .string ⟨#[49, 95, 48]⟩, .string ⟨#[49, 46, 48]⟩] 9)) fun e w' => ∃ u, e = .returned u ∧ TRow w' u rowB ∧ Below W.heap.size W w' := by
  have H : RowS (W.alloc (.cells #[.string ⟨#[50]⟩, .string ⟨#[49, 95, 48]⟩, .string ⟨#[49, 46, 48]⟩] 9)) W.heap.size rowA := rowS_lit W rowA (by decide)
  refine (sort_any W.heap.size 3 3 rowA _ rfl (by decide) (by unfold Sh rowA; decide) (fun k hk => (H.2 k hk).1)).mono ?_
  rintro e w' ⟨g, c, rfl, hg, hR, hB⟩
  rw [sorted3] at hR
  exact ⟨_, rfl, hR.trow rfl, ((Below.refl _ _).alloc (Nat.le_refl _) _).trans (hB.mono (by simp))⟩
theorem texts_lit (W : World) (u : Value) (h : TRow W u rowB) : Calls Tryd.prog 13 #[u, .slice (some ⟨W.heap.size, 0, none⟩) 3 3] (W.alloc (.cells #[.string ⟨#[49, 95, 48]⟩, .string ⟨#[49, 46, 48]⟩, .string ⟨#[50]⟩] 9)) fun e w' => e = .returned (.bool true) ∧ Below W.heap.size W w' := by
  have H : RowS (W.alloc (.cells #[.string ⟨#[49, 95, 48]⟩, .string ⟨#[49, 46, 48]⟩, .string ⟨#[50]⟩] 9)) W.heap.size rowB := rowS_lit W rowB (by decide)
  refine (texts_any u _ rowB rowB _ (by decide) (by decide) (h.calls ((Below.refl _ _).alloc (Nat.le_refl _) _)) (H.trow rfl)).mono ?_
  rintro e w' ⟨rfl, hB⟩
  exact ⟨ret_bool (decide_eq_true rfl), ((Below.refl _ _).alloc (Nat.le_refl _) _).trans (hB.mono (by simp))⟩
theorem keep_five {n : Nat} {w W W' : World} (h : W.cell? ⟨n, 0, none⟩ = some (.string ⟨#[49, 126, 114, 99]⟩) ∧ W.cell? ⟨n, 1, none⟩ = some (.string ⟨#[49]⟩) ∧ W.cell? ⟨n, 2, none⟩ = some (.string ⟨#[49, 94, 112, 111, 115, 116]⟩) ∧ W.cell? ⟨n, 3, none⟩ = some (.string ⟨#[49, 46, 97]⟩) ∧ W.cell? ⟨n, 4, none⟩ = some (.string ⟨#[49, 46, 48]⟩) ∧ n < W.heap.size ∧ Below n w W) (hb : Below W.heap.size W W') :
    W'.cell? ⟨n, 0, none⟩ = some (.string ⟨#[49, 126, 114, 99]⟩) ∧ W'.cell? ⟨n, 1, none⟩ = some (.string ⟨#[49]⟩) ∧ W'.cell? ⟨n, 2, none⟩ = some (.string ⟨#[49, 94, 112, 111, 115, 116]⟩) ∧ W'.cell? ⟨n, 3, none⟩ = some (.string ⟨#[49, 46, 97]⟩) ∧ W'.cell? ⟨n, 4, none⟩ = some (.string ⟨#[49, 46, 48]⟩) ∧ n < W'.heap.size ∧ Below n w W' := by
  obtain ⟨c0_0, c0_1, c0_2, c0_3, c0_4, l0, hB⟩ := h
  have hB_le : n ≤ W.heap.size := by omega
  exact ⟨(hb.cell (p := ⟨n, 0, none⟩) l0).trans c0_0, (hb.cell (p := ⟨n, 1, none⟩) l0).trans c0_1, (hb.cell (p := ⟨n, 2, none⟩) l0).trans c0_2, (hb.cell (p := ⟨n, 3, none⟩) l0).trans c0_3, (hb.cell (p := ⟨n, 4, none⟩) l0).trans c0_4, Nat.lt_of_lt_of_le l0 hb.size, hB.trans (hb.mono hB_le)⟩
theorem tail_five {n : Nat} {w W : World} (h : W.cell? ⟨n, 0, none⟩ = some (.string ⟨#[49, 126, 114, 99]⟩) ∧ W.cell? ⟨n, 1, none⟩ = some (.string ⟨#[49]⟩) ∧ W.cell? ⟨n, 2, none⟩ = some (.string ⟨#[49, 94, 112, 111, 115, 116]⟩) ∧ W.cell? ⟨n, 3, none⟩ = some (.string ⟨#[49, 46, 97]⟩) ∧ W.cell? ⟨n, 4, none⟩ = some (.string ⟨#[49, 46, 48]⟩) ∧ n < W.heap.size ∧ Below n w W) : Below n w W := h.2.2.2.2.2.2
theorem new_five (w : World) : let W := (w.alloc (.cells #[.string ⟨#[49, 126, 114, 99]⟩, .string ⟨#[49]⟩, .string ⟨#[49, 94, 112, 111, 115, 116]⟩, .string ⟨#[49, 46, 97]⟩, .string ⟨#[49, 46, 48]⟩] 9)); let n := w.heap.size; W.cell? ⟨n, 0, none⟩ = some (.string ⟨#[49, 126, 114, 99]⟩) ∧ W.cell? ⟨n, 1, none⟩ = some (.string ⟨#[49]⟩) ∧ W.cell? ⟨n, 2, none⟩ = some (.string ⟨#[49, 94, 112, 111, 115, 116]⟩) ∧ W.cell? ⟨n, 3, none⟩ = some (.string ⟨#[49, 46, 97]⟩) ∧ W.cell? ⟨n, 4, none⟩ = some (.string ⟨#[49, 46, 48]⟩) ∧ n < W.heap.size ∧ Below n w W := by
  refine ⟨?_, ?_, ?_, ?_, ?_, ?_, ?_⟩
  all_goals first | exact (World.cell?_alloc_at _ _ _ _ (by simp)).trans rfl | exact ((Below.refl _ _).alloc (by simp; try omega) _) | (simp; try omega)
theorem TRow.shape {W : World} {u : Value} {D : List ByteArray} (h : TRow W u D) : ∃ a c l, u = .slice a l c := by
  rcases h with ⟨g, c, e, _⟩ | ⟨_, a, c, e⟩
  · exact ⟨_, _, _, e⟩
  · exact ⟨_, _, _, e⟩
set_option maxRecDepth 100000 in
set_option maxHeartbeats 16000000 in
theorem awake02 (w : World) : Calls Tryd.prog 11 #[] w fun e w' => e = .returned (.bool true) ∧ Below w.heap.size w w' := by
  have C0 := Lib.hid (fun W => cmp_lit W ⟨#[49, 126, 114, 99]⟩ ⟨#[49]⟩ (-1) (by decide +kernel) (by decide))
  have C1 := Lib.hid (fun W => cmp_lit W ⟨#[49]⟩ ⟨#[49, 126, 114, 99]⟩ (1) (by decide +kernel) (by decide))
  have C2 := Lib.hid (fun W => cmp_lit W ⟨#[49]⟩ ⟨#[49, 94, 112, 111, 115, 116]⟩ (-1) (by decide +kernel) (by decide))
  have C3 := Lib.hid (fun W => cmp_lit W ⟨#[49, 94, 112, 111, 115, 116]⟩ ⟨#[49]⟩ (1) (by decide +kernel) (by decide))
  have C4 := Lib.hid (fun W => cmp_lit W ⟨#[49, 94, 112, 111, 115, 116]⟩ ⟨#[49, 46, 97]⟩ (-1) (by decide +kernel) (by decide))
  have C5 := Lib.hid (fun W => cmp_lit W ⟨#[49, 46, 97]⟩ ⟨#[49, 94, 112, 111, 115, 116]⟩ (1) (by decide +kernel) (by decide))
  have C6 := Lib.hid (fun W => cmp_lit W ⟨#[49, 46, 97]⟩ ⟨#[49, 46, 48]⟩ (-1) (by decide +kernel) (by decide))
  have C7 := Lib.hid (fun W => cmp_lit W ⟨#[49, 46, 48]⟩ ⟨#[49, 46, 97]⟩ (1) (by decide +kernel) (by decide))
  have C8 := Lib.hid (fun W => cmp_lit W ⟨#[49, 46, 48]⟩ ⟨#[49, 95, 48]⟩ (0) (by decide +kernel) (by decide))
  have C9 := Lib.hid (fun W => cmp_lit W ⟨#[49, 46, 48]⟩ ⟨#[48, 49, 46, 48, 48]⟩ (0) (by decide +kernel) (by decide))
  have C10 := Lib.hid (fun W => cmp_lit W ⟨#[49, 48]⟩ ⟨#[57]⟩ (1) (by decide +kernel) (by decide))
  have C11 := Lib.hid (fun W => cmp_lit W ⟨#[49, 46, 98]⟩ ⟨#[49, 46, 97]⟩ (1) (by decide +kernel) (by decide))
  have C12 := Lib.hid (fun W => cmp_lit W ⟨#[49, 46, 48, 97]⟩ ⟨#[49, 46, 48]⟩ (1) (by decide +kernel) (by decide))
  have SL := Lib.hid (fun W => sort_lit W)
  have TL := Lib.hid (fun W u h => texts_lit W u h)
  have S0 := new_five w
  dsimp only at S0
  go_enter Tryd.func11, Tryd.ntmps11
  go_wp2_with fail
  generalize (w.alloc (.cells #[.string ⟨#[49, 126, 114, 99]⟩, .string ⟨#[49]⟩, .string ⟨#[49, 94, 112, 111, 115, 116]⟩, .string ⟨#[49, 46, 97]⟩, .string ⟨#[49, 46, 48]⟩] 9)) = W at *
  generalize hn : w.heap.size = n at *
  obtain ⟨c0_0, c0_1, c0_2, c0_3, c0_4, l0, hB⟩ := id S0
  refine wp_loop_rounds 5 ?_
  have hw1 : IntKind.i64.wrap 1 = 1 := rfl
  have hw2 : IntKind.i64.wrap 2 = 2 := rfl
  have hw3 : IntKind.i64.wrap 3 = 3 := rfl
  have hw4 : IntKind.i64.wrap 4 = 4 := rfl
  rw [rounds_succ]
  go_wp2_with fail
  go_region_held3 (fun W => W.cell? ⟨n, 0, none⟩ = some (.string ⟨#[49, 126, 114, 99]⟩) ∧ W.cell? ⟨n, 1, none⟩ = some (.string ⟨#[49]⟩) ∧ W.cell? ⟨n, 2, none⟩ = some (.string ⟨#[49, 94, 112, 111, 115, 116]⟩) ∧ W.cell? ⟨n, 3, none⟩ = some (.string ⟨#[49, 46, 97]⟩) ∧ W.cell? ⟨n, 4, none⟩ = some (.string ⟨#[49, 46, 48]⟩) ∧ n < W.heap.size ∧ Below n w W) (first | exact keep_five (by assumption) hbb | exact ⟨c0_0, c0_1, c0_2, c0_3, c0_4, l0, hB.drew⟩ | go_keep) (first | (go_at_call 15; ((with_reducible refine (C0.out _).mono ?_); rintro e w' ⟨rfl, hbb⟩)) | (go_at_call 15; ((with_reducible refine (C1.out _).mono ?_); rintro e w' ⟨rfl, hbb⟩)))
  rename_i hh0
  clear c0_0 c0_1 c0_2 c0_3 c0_4 l0 hB S0
  have S1 := hh0
  clear hh0
  obtain ⟨c0_0, c0_1, c0_2, c0_3, c0_4, l0, hB⟩ := id S1
  go_wp2_with fail
  rw [rounds_succ]
  go_wp2_with fail
  go_region_held3 (fun W => W.cell? ⟨n, 0, none⟩ = some (.string ⟨#[49, 126, 114, 99]⟩) ∧ W.cell? ⟨n, 1, none⟩ = some (.string ⟨#[49]⟩) ∧ W.cell? ⟨n, 2, none⟩ = some (.string ⟨#[49, 94, 112, 111, 115, 116]⟩) ∧ W.cell? ⟨n, 3, none⟩ = some (.string ⟨#[49, 46, 97]⟩) ∧ W.cell? ⟨n, 4, none⟩ = some (.string ⟨#[49, 46, 48]⟩) ∧ n < W.heap.size ∧ Below n w W) (first | exact keep_five (by assumption) hbb | exact ⟨c0_0, c0_1, c0_2, c0_3, c0_4, l0, hB.drew⟩ | go_keep) (first | (go_at_call 15; ((with_reducible refine (C2.out _).mono ?_); rintro e w' ⟨rfl, hbb⟩)) | (go_at_call 15; ((with_reducible refine (C3.out _).mono ?_); rintro e w' ⟨rfl, hbb⟩)))
  rename_i hh1
  clear c0_0 c0_1 c0_2 c0_3 c0_4 l0 hB S1
  have S2 := hh1
  clear hh1
  obtain ⟨c0_0, c0_1, c0_2, c0_3, c0_4, l0, hB⟩ := id S2
  go_wp2_with fail
  rw [rounds_succ]
  go_wp2_with fail
  go_region_held3 (fun W => W.cell? ⟨n, 0, none⟩ = some (.string ⟨#[49, 126, 114, 99]⟩) ∧ W.cell? ⟨n, 1, none⟩ = some (.string ⟨#[49]⟩) ∧ W.cell? ⟨n, 2, none⟩ = some (.string ⟨#[49, 94, 112, 111, 115, 116]⟩) ∧ W.cell? ⟨n, 3, none⟩ = some (.string ⟨#[49, 46, 97]⟩) ∧ W.cell? ⟨n, 4, none⟩ = some (.string ⟨#[49, 46, 48]⟩) ∧ n < W.heap.size ∧ Below n w W) (first | exact keep_five (by assumption) hbb | exact ⟨c0_0, c0_1, c0_2, c0_3, c0_4, l0, hB.drew⟩ | go_keep) (first | (go_at_call 15; ((with_reducible refine (C4.out _).mono ?_); rintro e w' ⟨rfl, hbb⟩)) | (go_at_call 15; ((with_reducible refine (C5.out _).mono ?_); rintro e w' ⟨rfl, hbb⟩)))
  rename_i hh2
  clear c0_0 c0_1 c0_2 c0_3 c0_4 l0 hB S2
  have S3 := hh2
  clear hh2
  obtain ⟨c0_0, c0_1, c0_2, c0_3, c0_4, l0, hB⟩ := id S3
  go_wp2_with fail
  rw [rounds_succ]
  go_wp2_with fail
  go_region_held3 (fun W => W.cell? ⟨n, 0, none⟩ = some (.string ⟨#[49, 126, 114, 99]⟩) ∧ W.cell? ⟨n, 1, none⟩ = some (.string ⟨#[49]⟩) ∧ W.cell? ⟨n, 2, none⟩ = some (.string ⟨#[49, 94, 112, 111, 115, 116]⟩) ∧ W.cell? ⟨n, 3, none⟩ = some (.string ⟨#[49, 46, 97]⟩) ∧ W.cell? ⟨n, 4, none⟩ = some (.string ⟨#[49, 46, 48]⟩) ∧ n < W.heap.size ∧ Below n w W) (first | exact keep_five (by assumption) hbb | exact ⟨c0_0, c0_1, c0_2, c0_3, c0_4, l0, hB.drew⟩ | go_keep) (first | (go_at_call 15; ((with_reducible refine (C6.out _).mono ?_); rintro e w' ⟨rfl, hbb⟩)) | (go_at_call 15; ((with_reducible refine (C7.out _).mono ?_); rintro e w' ⟨rfl, hbb⟩)))
  rename_i hh3
  clear c0_0 c0_1 c0_2 c0_3 c0_4 l0 hB S3
  have S4 := hh3
  clear hh3
  obtain ⟨c0_0, c0_1, c0_2, c0_3, c0_4, l0, hB⟩ := id S4
  go_wp2_with fail
  clear hw1 hw2 hw3 hw4
  rw [rounds_succ]
  have B0 := tail_five S4
  clear c0_0 c0_1 c0_2 c0_3 c0_4 l0 hB S4
  go_wp2_with fail
  go_at_call 15
  refine (C8.out _).mono ?_
  rintro e0 v0 ⟨rfl, h⟩
  have B1 := B0.trans (h.mono (by rw [← hn]; exact B0.size))
  clear h
  go_wp2_with fail
  go_at_call 15
  refine (C9.out _).mono ?_
  rintro e1 v1 ⟨rfl, h⟩
  have B2 := B1.trans (h.mono (by rw [← hn]; exact B1.size))
  clear h
  go_wp2_with fail
  go_at_call 15
  refine (C10.out _).mono ?_
  rintro e2 v2 ⟨rfl, h⟩
  have B3 := B2.trans (h.mono (by rw [← hn]; exact B2.size))
  clear h
  go_wp2_with fail
  go_at_call 15
  refine (C11.out _).mono ?_
  rintro e3 v3 ⟨rfl, h⟩
  have B4 := B3.trans (h.mono (by rw [← hn]; exact B3.size))
  clear h
  go_wp2_with fail
  go_at_call 15
  refine (C12.out _).mono ?_
  rintro e4 v4 ⟨rfl, h⟩
  have B5 := B4.trans (h.mono (by rw [← hn]; exact B4.size))
  clear h
  go_wp2_with fail
  go_at_call 12
  refine (SL.out _).mono ?_
  rintro e5 v5 ⟨u, rfl, hu, h⟩
  have B6 := B5.trans (h.mono (by rw [← hn]; exact B5.size))
  clear h
  have HU := Lib.hid hu
  clear hu
  obtain ⟨a, c, l, rfl⟩ : ∃ a c l, u = .slice a l c := HU.out.shape
  go_wp2_with fail
  go_at_call 13
  refine (TL.out _ _ HU.out).mono ?_
  rintro e6 v6 ⟨rfl, h⟩
  have B7 := B6.trans (h.mono (by rw [← hn]; exact B6.size))
  clear h
  go_wp2
  go_ret
  exact ⟨rfl, by rw [hn]; exact B7⟩
end Go.Proofs.YtinidiiachedbaaDoor
