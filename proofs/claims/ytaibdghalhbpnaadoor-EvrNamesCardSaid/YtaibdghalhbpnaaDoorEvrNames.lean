/- EvrNames, walked. -/
import Derived.Test.YtaibdghalhbpnaaDoorEvrBack
namespace Go.Proofs.YtaibdghalhbpnaaDoor
open Go.RowKit Go.Shelf

theorem pc0 {s : Bytes} (h : (Lib.cut s [58]).2.2 = false) : pcand s = some (behind 0 s) := by unfold pcand; rw [if_neg (by rw [h]; decide)]
def rep (n : Nat) (c : UInt8) : ByteArray := bs (List.replicate n c)
theorem rep_next (n : Nat) (c : UInt8) : rep n c ++ ⟨#[c]⟩ = rep (n + 1) c := by
  unfold rep
  rw [List.replicate_succ', ← bs_join]; rfl
theorem rep_size (n : Nat) (c : UInt8) : (rep n c).size = n := by unfold rep; rw [bs_size, List.length_replicate]
set_option maxRecDepth 100000 in
set_option maxHeartbeats 16000000 in
theorem many_any (n : Nat) (c : UInt8) (w : World) (hn : n ≤ 1000) : Calls Tryd.prog 46 #[.int .i64 (n : Int), .string ⟨#[c]⟩] w fun e w' => e = .returned (.string (rep n c)) ∧ w = w' := by
  obtain ⟨R, hR⟩ : ∃ R, R = rep n c := ⟨_, rfl⟩
  rw [← hR]
  have HR := Lib.hid hR
  clear hR
  go_enter Tryd.func46, Tryd.ntmps46
  go_wp2_with fail
  go_loop [5, 6] (fun s i => ∃ k : Nat, k ≤ n ∧ i = .int .i64 (k : Int) ∧ s = .string (rep k c)) (fun _ i => n - (intOf i).toNat)
  case atStart => exact ⟨0, by omega, rfl, rfl⟩
  case round =>
    obtain ⟨k, hk, rfl, rfl⟩ := hrel
    have hs := rep_size k c
    have hz : (rep k c).size ≤ 1000 := by omega
    clear hs
    by_cases hlt : k < n
    · have HX := Lib.hid (rep_next k c)
      have hlt2 : (k : Int) < (n : Int) := by omega
      go_wp2_with fail
      go_round
      case rel => exact ⟨k + 1, by omega, by go_num, val_str HX.out⟩
      case measure => simp [intOf]; omega
    · have hlt2 : ¬ (k : Int) < (n : Int) := by omega
      obtain rfl : R = rep k c := by rw [HR.out, show n = k by omega]
      clear HR
      go_wp2_with fail
      go_ret
      exact ⟨rfl, rfl⟩
theorem bad_of (s : ByteArray) (l : Bytes) (w : World) (hI : EvIn w) (hs : s.size ≤ 1000) (hl : s.toList = l) (h : evOf l = none) :
    Calls Tryd.prog 47 #[.string s] w fun r w' => r = .returned (.bool true) ∧ Below w.heap.size w w' := by
  have h2 := bad_any s w (by omega) hI
  rw [hl, h] at h2
  exact h2
theorem of_of (s : ByteArray) (l : Bytes) (e : Evr) (w : World) (hI : EvIn w) (hs : s.size ≤ 1000) (hl : s.toList = l) (h : IsEvr l e) :
    Calls Tryd.prog 49 #[.string s] w fun r w' => r = .returned e.val ∧ Below w.heap.size w w' := by
  have h2 := of_any s w (by omega) hI
  rw [hl, of_some h] at h2
  exact h2
theorem show_of (s : ByteArray) (e : Evr) (w : World) (hI : EvIn w) (h : IsEvr s.toList e) : Calls Tryd.prog 48 #[e.val] w fun r w' => r = .returned (.tuple #[.string s, .int .i64 0]) ∧ Below w.heap.size w w' := by
  have h2 := show_yes e w (evr_wf h) hI h.1
  rw [h.2, bs_of] at h2
  exact h2
theorem show_pos {u : Nat} {l : Bytes} (h0 : 0 < u) (h : Lib.decDigits u = l) (v r : Bytes) : showL ⟨(u : Int), v, r⟩ = (l ++ [58]) ++ (v ++ relL r) := by
  unfold showL
  dsimp only
  rw [if_pos (by omega), show Lib.itoa (u : Int) = Lib.decDigits u from by unfold Lib.itoa; rw [if_neg (by omega), Int.toNat_natCast], h]
theorem may_lit (e : Evr) (d r : Bool) (w : World) (hw : e.wf) (hm : mayB e d = r) : Calls Tryd.prog 50 #[e.val, .bool d] w fun x w' => x = .returned (.bool r) ∧ Below w.heap.size w w' := by
  subst hm
  exact evMay_any e d w hw
theorem cmp_ev (a b : Evr) (c : Int) (w : World) (ha : (decide (a.ver.length ≤ 1000000) && decide (a.rel.length ≤ 1000000)) = true) (hb : (decide (b.ver.length ≤ 1000000) && decide (b.rel.length ≤ 1000000)) = true) (h : ecmp a b = c) :
    Calls Tryd.prog 29 #[a.val, b.val] w fun e w' => e = .returned (.int .i64 c) ∧ Below w.heap.size w w' := by
  simp only [Bool.and_eq_true, decide_eq_true_eq] at ha hb
  subst h
  exact evr_any a b w ha.1 hb.1 ha.2 hb.2
theorem keep_l1 {v0 v1 v2 v3 v4 v5 v6 v7 v8 v9 v10 v11 v12 v13 v14 : ByteArray} {g : Nat} {n : Nat} {w W W' : World} (h : W.cell? ⟨g, 0, none⟩ = some (.string v0) ∧ W.cell? ⟨g, 1, none⟩ = some (.string v1) ∧ W.cell? ⟨g, 2, none⟩ = some (.string v2) ∧ W.cell? ⟨g, 3, none⟩ = some (.string v3) ∧ W.cell? ⟨g, 4, none⟩ = some (.string v4) ∧ W.cell? ⟨g, 5, none⟩ = some (.string v5) ∧ W.cell? ⟨g, 6, none⟩ = some (.string v6) ∧ W.cell? ⟨g, 7, none⟩ = some (.string v7) ∧ W.cell? ⟨g, 8, none⟩ = some (.string v8) ∧ W.cell? ⟨g, 9, none⟩ = some (.string v9) ∧ W.cell? ⟨g, 10, none⟩ = some (.string v10) ∧ W.cell? ⟨g, 11, none⟩ = some (.string v11) ∧ W.cell? ⟨g, 12, none⟩ = some (.string v12) ∧ W.cell? ⟨g, 13, none⟩ = some (.string v13) ∧ W.cell? ⟨g, 14, none⟩ = some (.string v14) ∧ g < W.heap.size ∧ n ≤ g ∧ Below n w W) (hb : Below W.heap.size W W') :
    W'.cell? ⟨g, 0, none⟩ = some (.string v0) ∧ W'.cell? ⟨g, 1, none⟩ = some (.string v1) ∧ W'.cell? ⟨g, 2, none⟩ = some (.string v2) ∧ W'.cell? ⟨g, 3, none⟩ = some (.string v3) ∧ W'.cell? ⟨g, 4, none⟩ = some (.string v4) ∧ W'.cell? ⟨g, 5, none⟩ = some (.string v5) ∧ W'.cell? ⟨g, 6, none⟩ = some (.string v6) ∧ W'.cell? ⟨g, 7, none⟩ = some (.string v7) ∧ W'.cell? ⟨g, 8, none⟩ = some (.string v8) ∧ W'.cell? ⟨g, 9, none⟩ = some (.string v9) ∧ W'.cell? ⟨g, 10, none⟩ = some (.string v10) ∧ W'.cell? ⟨g, 11, none⟩ = some (.string v11) ∧ W'.cell? ⟨g, 12, none⟩ = some (.string v12) ∧ W'.cell? ⟨g, 13, none⟩ = some (.string v13) ∧ W'.cell? ⟨g, 14, none⟩ = some (.string v14) ∧ g < W'.heap.size ∧ n ≤ g ∧ Below n w W' := by
  obtain ⟨c0_0, c0_1, c0_2, c0_3, c0_4, c0_5, c0_6, c0_7, c0_8, c0_9, c0_10, c0_11, c0_12, c0_13, c0_14, l0, lg, hB⟩ := h
  have hB_le : n ≤ W.heap.size := by omega
  exact ⟨(hb.cell (p := ⟨g, 0, none⟩) l0).trans c0_0, (hb.cell (p := ⟨g, 1, none⟩) l0).trans c0_1, (hb.cell (p := ⟨g, 2, none⟩) l0).trans c0_2, (hb.cell (p := ⟨g, 3, none⟩) l0).trans c0_3, (hb.cell (p := ⟨g, 4, none⟩) l0).trans c0_4, (hb.cell (p := ⟨g, 5, none⟩) l0).trans c0_5, (hb.cell (p := ⟨g, 6, none⟩) l0).trans c0_6, (hb.cell (p := ⟨g, 7, none⟩) l0).trans c0_7, (hb.cell (p := ⟨g, 8, none⟩) l0).trans c0_8, (hb.cell (p := ⟨g, 9, none⟩) l0).trans c0_9, (hb.cell (p := ⟨g, 10, none⟩) l0).trans c0_10, (hb.cell (p := ⟨g, 11, none⟩) l0).trans c0_11, (hb.cell (p := ⟨g, 12, none⟩) l0).trans c0_12, (hb.cell (p := ⟨g, 13, none⟩) l0).trans c0_13, (hb.cell (p := ⟨g, 14, none⟩) l0).trans c0_14, Nat.lt_of_lt_of_le l0 hb.size, lg, hB.trans (hb.mono hB_le)⟩
theorem fresh_l1 (v0 v1 v2 v3 v4 v5 v6 v7 v8 v9 v10 v11 v12 v13 v14 : ByteArray) {n : Nat} {w W : World} (hB : Below n w W) (hl : n ≤ W.heap.size) : let V := (W.alloc (.cells #[.string v0, .string v1, .string v2, .string v3, .string v4, .string v5, .string v6, .string v7, .string v8, .string v9, .string v10, .string v11, .string v12, .string v13, .string v14] 9)); let g := W.heap.size; V.cell? ⟨g, 0, none⟩ = some (.string v0) ∧ V.cell? ⟨g, 1, none⟩ = some (.string v1) ∧ V.cell? ⟨g, 2, none⟩ = some (.string v2) ∧ V.cell? ⟨g, 3, none⟩ = some (.string v3) ∧ V.cell? ⟨g, 4, none⟩ = some (.string v4) ∧ V.cell? ⟨g, 5, none⟩ = some (.string v5) ∧ V.cell? ⟨g, 6, none⟩ = some (.string v6) ∧ V.cell? ⟨g, 7, none⟩ = some (.string v7) ∧ V.cell? ⟨g, 8, none⟩ = some (.string v8) ∧ V.cell? ⟨g, 9, none⟩ = some (.string v9) ∧ V.cell? ⟨g, 10, none⟩ = some (.string v10) ∧ V.cell? ⟨g, 11, none⟩ = some (.string v11) ∧ V.cell? ⟨g, 12, none⟩ = some (.string v12) ∧ V.cell? ⟨g, 13, none⟩ = some (.string v13) ∧ V.cell? ⟨g, 14, none⟩ = some (.string v14) ∧ g < V.heap.size ∧ n ≤ g ∧ Below n w V := by
  exact ⟨(World.cell?_alloc_at _ _ _ _ rfl).trans rfl, (World.cell?_alloc_at _ _ _ _ rfl).trans rfl, (World.cell?_alloc_at _ _ _ _ rfl).trans rfl, (World.cell?_alloc_at _ _ _ _ rfl).trans rfl, (World.cell?_alloc_at _ _ _ _ rfl).trans rfl, (World.cell?_alloc_at _ _ _ _ rfl).trans rfl, (World.cell?_alloc_at _ _ _ _ rfl).trans rfl, (World.cell?_alloc_at _ _ _ _ rfl).trans rfl, (World.cell?_alloc_at _ _ _ _ rfl).trans rfl, (World.cell?_alloc_at _ _ _ _ rfl).trans rfl, (World.cell?_alloc_at _ _ _ _ rfl).trans rfl, (World.cell?_alloc_at _ _ _ _ rfl).trans rfl, (World.cell?_alloc_at _ _ _ _ rfl).trans rfl, (World.cell?_alloc_at _ _ _ _ rfl).trans rfl, (World.cell?_alloc_at _ _ _ _ rfl).trans rfl, by simp, hl, hB.alloc hl _⟩
theorem tail_l1 {v0 v1 v2 v3 v4 v5 v6 v7 v8 v9 v10 v11 v12 v13 v14 : ByteArray} {g : Nat} {n : Nat} {w W : World} (h : W.cell? ⟨g, 0, none⟩ = some (.string v0) ∧ W.cell? ⟨g, 1, none⟩ = some (.string v1) ∧ W.cell? ⟨g, 2, none⟩ = some (.string v2) ∧ W.cell? ⟨g, 3, none⟩ = some (.string v3) ∧ W.cell? ⟨g, 4, none⟩ = some (.string v4) ∧ W.cell? ⟨g, 5, none⟩ = some (.string v5) ∧ W.cell? ⟨g, 6, none⟩ = some (.string v6) ∧ W.cell? ⟨g, 7, none⟩ = some (.string v7) ∧ W.cell? ⟨g, 8, none⟩ = some (.string v8) ∧ W.cell? ⟨g, 9, none⟩ = some (.string v9) ∧ W.cell? ⟨g, 10, none⟩ = some (.string v10) ∧ W.cell? ⟨g, 11, none⟩ = some (.string v11) ∧ W.cell? ⟨g, 12, none⟩ = some (.string v12) ∧ W.cell? ⟨g, 13, none⟩ = some (.string v13) ∧ W.cell? ⟨g, 14, none⟩ = some (.string v14) ∧ g < W.heap.size ∧ n ≤ g ∧ Below n w W) : Below n w W := h.2.2.2.2.2.2.2.2.2.2.2.2.2.2.2.2.2
theorem keep_l2 {v0 v1 v2 v3 v4 v5 : ByteArray} {g : Nat} {n : Nat} {w W W' : World} (h : W.cell? ⟨g, 0, none⟩ = some (.string v0) ∧ W.cell? ⟨g, 1, none⟩ = some (.string v1) ∧ W.cell? ⟨g, 2, none⟩ = some (.string v2) ∧ W.cell? ⟨g, 3, none⟩ = some (.string v3) ∧ W.cell? ⟨g, 4, none⟩ = some (.string v4) ∧ W.cell? ⟨g, 5, none⟩ = some (.string v5) ∧ g < W.heap.size ∧ n ≤ g ∧ Below n w W) (hb : Below W.heap.size W W') :
    W'.cell? ⟨g, 0, none⟩ = some (.string v0) ∧ W'.cell? ⟨g, 1, none⟩ = some (.string v1) ∧ W'.cell? ⟨g, 2, none⟩ = some (.string v2) ∧ W'.cell? ⟨g, 3, none⟩ = some (.string v3) ∧ W'.cell? ⟨g, 4, none⟩ = some (.string v4) ∧ W'.cell? ⟨g, 5, none⟩ = some (.string v5) ∧ g < W'.heap.size ∧ n ≤ g ∧ Below n w W' := by
  obtain ⟨c0_0, c0_1, c0_2, c0_3, c0_4, c0_5, l0, lg, hB⟩ := h
  have hB_le : n ≤ W.heap.size := by omega
  exact ⟨(hb.cell (p := ⟨g, 0, none⟩) l0).trans c0_0, (hb.cell (p := ⟨g, 1, none⟩) l0).trans c0_1, (hb.cell (p := ⟨g, 2, none⟩) l0).trans c0_2, (hb.cell (p := ⟨g, 3, none⟩) l0).trans c0_3, (hb.cell (p := ⟨g, 4, none⟩) l0).trans c0_4, (hb.cell (p := ⟨g, 5, none⟩) l0).trans c0_5, Nat.lt_of_lt_of_le l0 hb.size, lg, hB.trans (hb.mono hB_le)⟩
theorem fresh_l2 (v0 v1 v2 v3 v4 v5 : ByteArray) {n : Nat} {w W : World} (hB : Below n w W) (hl : n ≤ W.heap.size) : let V := (W.alloc (.cells #[.string v0, .string v1, .string v2, .string v3, .string v4, .string v5] 9)); let g := W.heap.size; V.cell? ⟨g, 0, none⟩ = some (.string v0) ∧ V.cell? ⟨g, 1, none⟩ = some (.string v1) ∧ V.cell? ⟨g, 2, none⟩ = some (.string v2) ∧ V.cell? ⟨g, 3, none⟩ = some (.string v3) ∧ V.cell? ⟨g, 4, none⟩ = some (.string v4) ∧ V.cell? ⟨g, 5, none⟩ = some (.string v5) ∧ g < V.heap.size ∧ n ≤ g ∧ Below n w V := by
  exact ⟨(World.cell?_alloc_at _ _ _ _ rfl).trans rfl, (World.cell?_alloc_at _ _ _ _ rfl).trans rfl, (World.cell?_alloc_at _ _ _ _ rfl).trans rfl, (World.cell?_alloc_at _ _ _ _ rfl).trans rfl, (World.cell?_alloc_at _ _ _ _ rfl).trans rfl, (World.cell?_alloc_at _ _ _ _ rfl).trans rfl, by simp, hl, hB.alloc hl _⟩
theorem tail_l2 {v0 v1 v2 v3 v4 v5 : ByteArray} {g : Nat} {n : Nat} {w W : World} (h : W.cell? ⟨g, 0, none⟩ = some (.string v0) ∧ W.cell? ⟨g, 1, none⟩ = some (.string v1) ∧ W.cell? ⟨g, 2, none⟩ = some (.string v2) ∧ W.cell? ⟨g, 3, none⟩ = some (.string v3) ∧ W.cell? ⟨g, 4, none⟩ = some (.string v4) ∧ W.cell? ⟨g, 5, none⟩ = some (.string v5) ∧ g < W.heap.size ∧ n ≤ g ∧ Below n w W) : Below n w W := h.2.2.2.2.2.2.2.2
set_option maxRecDepth 100000 in
set_option maxHeartbeats 16000000 in
theorem evrNames_row (w : World) (hI : EvIn w) : Calls Tryd.prog 18 #[] w fun e w' => e = .returned (.bool true) ∧ Below w.heap.size w w' := by
  have hM1 : (rep 65 49).size ≤ 65 := by rw [rep_size]; exact Nat.le_refl _
  have hM2 : (rep 64 49).size ≤ 64 := by rw [rep_size]; exact Nat.le_refl _
  have hM3 : (rep 64 122).size ≤ 64 := by rw [rep_size]; exact Nat.le_refl _
  have WK := Lib.hid (fun W (h : Below w.heap.size w W) => works_any W (hI.below h))
  have MA := Lib.hid (fun W => many_any 65 49 W (by decide))
  have MB := Lib.hid (fun W => many_any 64 49 W (by decide))
  have MC := Lib.hid (fun W => many_any 64 122 W (by decide))
  rw [show ((65 : Nat) : Int) = 65 from rfl] at MA
  rw [show ((64 : Nat) : Int) = 64 from rfl] at MB MC
  have X0 := Lib.hid (fun W (h : Below w.heap.size w W) => bad_of ⟨#[]⟩ [] W (hI.below h) (by decide) (bs_toList _) (none_may (pc0 (by decide +kernel)) (by decide +kernel)))
  have X1 := Lib.hid (fun W (h : Below w.heap.size w W) => bad_of ⟨#[45, 49]⟩ [45, 49] W (hI.below h) (by decide) (bs_toList _) (none_may (pc0 (by decide +kernel)) (by decide +kernel)))
  have X2 := Lib.hid (fun W (h : Below w.heap.size w W) => bad_of ⟨#[49, 58]⟩ [49, 58] W (hI.below h) (by decide) (bs_toList _) (none_may (e := ⟨1, [], []⟩) rfl (by decide +kernel)))
  have X3 := Lib.hid (fun W (h : Below w.heap.size w W) => bad_of ⟨#[97, 58, 49]⟩ [97, 58, 49] W (hI.below h) (by decide) (bs_toList _) (none_pc rfl))
  have X4 := Lib.hid (fun W (h : Below w.heap.size w W) => bad_of ⟨#[45, 49, 58, 49]⟩ [45, 49, 58, 49] W (hI.below h) (by decide) (bs_toList _) (none_may (e := ⟨-1, [49], []⟩) rfl (by decide +kernel)))
  have X5 := Lib.hid (fun W (h : Below w.heap.size w W) => bad_of ⟨#[43, 49, 58, 49]⟩ [43, 49, 58, 49] W (hI.below h) (by decide) (bs_toList _) (none_show (e := ⟨1, [49], []⟩) rfl (by rw [show_one]; decide)))
  have X6 := Lib.hid (fun W (h : Below w.heap.size w W) => bad_of ⟨#[49, 58, 49, 58, 49]⟩ [49, 58, 49, 58, 49] W (hI.below h) (by decide) (bs_toList _) (none_may (e := ⟨1, [49, 58, 49], []⟩) rfl (by decide +kernel)))
  have X7 := Lib.hid (fun W (h : Below w.heap.size w W) => bad_of ⟨#[49, 32]⟩ [49, 32] W (hI.below h) (by decide) (bs_toList _) (none_may (pc0 (by decide +kernel)) (by decide +kernel)))
  have X8 := Lib.hid (fun W (h : Below w.heap.size w W) => bad_of ⟨#[49, 47, 50]⟩ [49, 47, 50] W (hI.below h) (by decide) (bs_toList _) (none_may (pc0 (by decide +kernel)) (by decide +kernel)))
  have X9 := Lib.hid (fun W (h : Below w.heap.size w W) => bad_of ⟨#[50, 49, 52, 55, 52, 56, 51, 54, 52, 56, 58, 49]⟩ [50, 49, 52, 55, 52, 56, 51, 54, 52, 56, 58, 49] W (hI.below h) (by decide) (bs_toList _) (none_may (e := ⟨2147483648, [49], []⟩) rfl (by decide +kernel)))
  have X10 := Lib.hid (fun W (h : Below w.heap.size w W) => bad_of ⟨#[57, 57, 57, 57, 57, 57, 57, 57, 57, 57, 57, 57, 57, 57, 57, 57, 57, 57, 57, 57, 58, 49]⟩ [57, 57, 57, 57, 57, 57, 57, 57, 57, 57, 57, 57, 57, 57, 57, 57, 57, 57, 57, 57, 58, 49] W (hI.below h) (by decide) (bs_toList _) (none_pc rfl))
  have E11 : evOf (List.replicate 65 49) = none := none_may (pc0 (by decide +kernel)) (by decide +kernel)
  have X11 := Lib.hid (fun W (h : Below w.heap.size w W) => bad_of (rep 65 49) _ W (hI.below h) (by omega) (bs_toList _) E11)
  clear E11
  have E12 : evOf ([49, 45] ++ List.replicate 65 49) = none := none_may (pc0 (by decide +kernel)) (by decide +kernel)
  have X12 := Lib.hid (fun W (h : Below w.heap.size w W) => bad_of (⟨#[49, 45]⟩ ++ rep 65 49) _ W (hI.below h) (by rw [ByteArray.size_append]; show 2 + _ ≤ 1000; omega) (by rw [toList_append, show (⟨#[49, 45]⟩ : ByteArray).toList = [49, 45] from bs_toList _]; exact congrArg _ (bs_toList _)) E12)
  clear E12
  have X13 := Lib.hid (fun W (h : Below w.heap.size w W) => bad_of ⟨#[49, 58, 45, 49]⟩ [49, 58, 45, 49] W (hI.below h) (by decide) (bs_toList _) (none_may (e := ⟨1, [], [49]⟩) rfl (by decide +kernel)))
  have X14 := Lib.hid (fun W (h : Below w.heap.size w W) => bad_of ⟨#[128]⟩ [128] W (hI.below h) (by decide) (bs_toList _) (none_may (pc0 (by decide +kernel)) (by decide +kernel)))
  have I0 : IsEvr [50, 49, 52, 55, 52, 56, 51, 54, 52, 55, 58, 49] ⟨2147483647, [49], []⟩ := ⟨by decide +kernel, (show_pos (u := 2147483647) (by decide) (show Lib.decDigits 2147483647 = [50, 49, 52, 55, 52, 56, 51, 54, 52, 55] from dec_back _ [50, 49, 52, 55, 52, 56, 51, 54, 52, 55] rfl (by simp) (by decide) (by decide)) [49] [])⟩
  have O0 := Lib.hid (fun W (h : Below w.heap.size w W) => of_of ⟨#[50, 49, 52, 55, 52, 56, 51, 54, 52, 55, 58, 49]⟩ _ _ W (hI.below h) (by decide) (bs_toList _) I0)
  have S0 := Lib.hid (fun W (h : Below w.heap.size w W) => show_of ⟨#[50, 49, 52, 55, 52, 56, 51, 54, 52, 55, 58, 49]⟩ _ W (hI.below h) (by rw [show (⟨#[50, 49, 52, 55, 52, 56, 51, 54, 52, 55, 58, 49]⟩ : ByteArray).toList = [50, 49, 52, 55, 52, 56, 51, 54, 52, 55, 58, 49] from bs_toList _]; exact I0))
  clear I0
  unfold Evr.val at O0 S0
  dsimp only at O0 S0
  have I1 : IsEvr (List.replicate 64 49 ++ [45] ++ List.replicate 64 122) ⟨0, List.replicate 64 49, List.replicate 64 122⟩ := ⟨by decide +kernel, by rw [show_zero]; decide +kernel⟩
  have L1 : (rep 64 49 ++ ⟨#[45]⟩ ++ rep 64 122).toList = List.replicate 64 49 ++ [45] ++ List.replicate 64 122 := by rw [toList_append, toList_append, show (⟨#[45]⟩ : ByteArray).toList = [45] from bs_toList _]; unfold rep; rw [bs_toList, bs_toList]
  have O1 := Lib.hid (fun W (h : Below w.heap.size w W) => of_of (rep 64 49 ++ ⟨#[45]⟩ ++ rep 64 122) _ _ W (hI.below h) (by rw [ByteArray.size_append, ByteArray.size_append]; show _ + 1 + _ ≤ 1000; omega) L1 I1)
  have S1 := Lib.hid (fun W (h : Below w.heap.size w W) => show_of (rep 64 49 ++ ⟨#[45]⟩ ++ rep 64 122) _ W (hI.below h) (by rw [L1]; exact I1))
  clear I1 L1
  unfold Evr.val at O1 S1
  dsimp only at O1 S1
  generalize bs (List.replicate 64 49) = R1 at O1 S1
  generalize bs (List.replicate 64 122) = R2 at O1 S1
  have I2 : IsEvr [126] ⟨0, [126], []⟩ := ⟨by decide +kernel, by rw [show_zero]; rfl⟩
  have O2 := Lib.hid (fun W (h : Below w.heap.size w W) => of_of ⟨#[126]⟩ _ _ W (hI.below h) (by decide) (bs_toList _) I2)
  have S2 := Lib.hid (fun W (h : Below w.heap.size w W) => show_of ⟨#[126]⟩ _ W (hI.below h) (by rw [show (⟨#[126]⟩ : ByteArray).toList = [126] from bs_toList _]; exact I2))
  clear I2
  unfold Evr.val at O2 S2
  dsimp only at O2 S2
  have I3 : IsEvr [94] ⟨0, [94], []⟩ := ⟨by decide +kernel, by rw [show_zero]; rfl⟩
  have O3 := Lib.hid (fun W (h : Below w.heap.size w W) => of_of ⟨#[94]⟩ _ _ W (hI.below h) (by decide) (bs_toList _) I3)
  have S3 := Lib.hid (fun W (h : Below w.heap.size w W) => show_of ⟨#[94]⟩ _ W (hI.below h) (by rw [show (⟨#[94]⟩ : ByteArray).toList = [94] from bs_toList _]; exact I3))
  clear I3
  unfold Evr.val at O3 S3
  dsimp only at O3 S3
  have I4 : IsEvr [97, 43, 98, 95, 99, 46, 100, 126, 101, 94, 102, 45, 49] ⟨0, [97, 43, 98, 95, 99, 46, 100, 126, 101, 94, 102], [49]⟩ := ⟨by decide +kernel, by rw [show_zero]; rfl⟩
  have O4 := Lib.hid (fun W (h : Below w.heap.size w W) => of_of ⟨#[97, 43, 98, 95, 99, 46, 100, 126, 101, 94, 102, 45, 49]⟩ _ _ W (hI.below h) (by decide) (bs_toList _) I4)
  have S4 := Lib.hid (fun W (h : Below w.heap.size w W) => show_of ⟨#[97, 43, 98, 95, 99, 46, 100, 126, 101, 94, 102, 45, 49]⟩ _ W (hI.below h) (by rw [show (⟨#[97, 43, 98, 95, 99, 46, 100, 126, 101, 94, 102, 45, 49]⟩ : ByteArray).toList = [97, 43, 98, 95, 99, 46, 100, 126, 101, 94, 102, 45, 49] from bs_toList _]; exact I4))
  clear I4
  unfold Evr.val at O4 S4
  dsimp only at O4 S4
  have I5 : IsEvr [49, 48, 58, 48] ⟨10, [48], []⟩ := ⟨by decide +kernel, (show_pos (u := 10) (by decide) (show Lib.decDigits 10 = [49, 48] from dec_back _ [49, 48] rfl (by simp) (by decide) (by decide)) [48] [])⟩
  have O5 := Lib.hid (fun W (h : Below w.heap.size w W) => of_of ⟨#[49, 48, 58, 48]⟩ _ _ W (hI.below h) (by decide) (bs_toList _) I5)
  have S5 := Lib.hid (fun W (h : Below w.heap.size w W) => show_of ⟨#[49, 48, 58, 48]⟩ _ W (hI.below h) (by rw [show (⟨#[49, 48, 58, 48]⟩ : ByteArray).toList = [49, 48, 58, 48] from bs_toList _]; exact I5))
  clear I5
  unfold Evr.val at O5 S5
  dsimp only at O5 S5
  have F0 := Lib.hid (fun W (h : Below w.heap.size w W) => show_no ⟨-1, [49], []⟩ W ⟨by decide, by decide, by decide⟩ (hI.below h) (by decide +kernel))
  unfold Evr.val at F0
  dsimp only at F0
  rw [show bs [49] = (⟨#[49]⟩ : ByteArray) from rfl, show bs [] = (⟨#[]⟩ : ByteArray) from rfl] at F0
  have F1 := Lib.hid (fun W (h : Below w.heap.size w W) => show_no ⟨0, [49, 58, 49], []⟩ W ⟨by decide, by decide, by decide⟩ (hI.below h) (by decide +kernel))
  unfold Evr.val at F1
  dsimp only at F1
  rw [show bs [49, 58, 49] = (⟨#[49, 58, 49]⟩ : ByteArray) from rfl, show bs [] = (⟨#[]⟩ : ByteArray) from rfl] at F1
  have F2 := Lib.hid (fun W (h : Below w.heap.size w W) => show_no ⟨0, [], [49]⟩ W ⟨by decide, by decide, by decide⟩ (hI.below h) (by decide +kernel))
  unfold Evr.val at F2
  dsimp only at F2
  rw [show bs [] = (⟨#[]⟩ : ByteArray) from rfl, show bs [49] = (⟨#[49]⟩ : ByteArray) from rfl] at F2
  have P0 := Lib.hid (fun W (h : Below w.heap.size w W) => of_of ⟨#[49]⟩ [49] ⟨0, [49], []⟩ W (hI.below h) (by decide) (bs_toList _) ⟨by decide +kernel, by rw [show_zero]; rfl⟩)
  unfold Evr.val at P0
  dsimp only at P0
  have P1 := Lib.hid (fun W (h : Below w.heap.size w W) => of_of ⟨#[49, 45, 49]⟩ [49, 45, 49] ⟨0, [49], [49]⟩ W (hI.below h) (by decide) (bs_toList _) ⟨by decide +kernel, by rw [show_zero]; rfl⟩)
  unfold Evr.val at P1
  dsimp only at P1
  have P2 := Lib.hid (fun W (h : Below w.heap.size w W) => of_of ⟨#[49, 126, 114, 99, 45, 49]⟩ [49, 126, 114, 99, 45, 49] ⟨0, [49, 126, 114, 99], [49]⟩ W (hI.below h) (by decide) (bs_toList _) ⟨by decide +kernel, by rw [show_zero]; rfl⟩)
  unfold Evr.val at P2
  dsimp only at P2
  have P3 := Lib.hid (fun W (h : Below w.heap.size w W) => of_of ⟨#[49, 94, 112, 111, 115, 116, 45, 49]⟩ [49, 94, 112, 111, 115, 116, 45, 49] ⟨0, [49, 94, 112, 111, 115, 116], [49]⟩ W (hI.below h) (by decide) (bs_toList _) ⟨by decide +kernel, by rw [show_zero]; rfl⟩)
  unfold Evr.val at P3
  dsimp only at P3
  have P4 := Lib.hid (fun W (h : Below w.heap.size w W) => of_of ⟨#[49, 46, 48, 45, 49]⟩ [49, 46, 48, 45, 49] ⟨0, [49, 46, 48], [49]⟩ W (hI.below h) (by decide) (bs_toList _) ⟨by decide +kernel, by rw [show_zero]; rfl⟩)
  unfold Evr.val at P4
  dsimp only at P4
  have P5 := Lib.hid (fun W (h : Below w.heap.size w W) => of_of ⟨#[49, 46, 97, 45, 49]⟩ [49, 46, 97, 45, 49] ⟨0, [49, 46, 97], [49]⟩ W (hI.below h) (by decide) (bs_toList _) ⟨by decide +kernel, by rw [show_zero]; rfl⟩)
  unfold Evr.val at P5
  dsimp only at P5
  have P6 := Lib.hid (fun W (h : Below w.heap.size w W) => of_of ⟨#[49, 95, 48, 45, 49]⟩ [49, 95, 48, 45, 49] ⟨0, [49, 95, 48], [49]⟩ W (hI.below h) (by decide) (bs_toList _) ⟨by decide +kernel, by rw [show_zero]; rfl⟩)
  unfold Evr.val at P6
  dsimp only at P6
  have P7 := Lib.hid (fun W (h : Below w.heap.size w W) => of_of ⟨#[57, 45, 57]⟩ [57, 45, 57] ⟨0, [57], [57]⟩ W (hI.below h) (by decide) (bs_toList _) ⟨by decide +kernel, by rw [show_zero]; rfl⟩)
  unfold Evr.val at P7
  dsimp only at P7
  have P8 := Lib.hid (fun W (h : Below w.heap.size w W) => of_of ⟨#[49, 58, 49]⟩ [49, 58, 49] ⟨1, [49], []⟩ W (hI.below h) (by decide) (bs_toList _) ⟨by decide +kernel, by rw [show_one]; rfl⟩)
  unfold Evr.val at P8
  dsimp only at P8
  have Y0 := Lib.hid (fun W => may_lit (⟨0, [49], []⟩ : Evr) true true W ⟨by decide, by decide, by decide⟩ (by decide +kernel))
  unfold Evr.val at Y0
  dsimp only at Y0
  have Y1 := Lib.hid (fun W => may_lit (⟨0, [49], []⟩ : Evr) false false W ⟨by decide, by decide, by decide⟩ (by decide +kernel))
  unfold Evr.val at Y1
  dsimp only at Y1
  have Y2 := Lib.hid (fun W => may_lit (⟨0, [49], [49]⟩ : Evr) false true W ⟨by decide, by decide, by decide⟩ (by decide +kernel))
  unfold Evr.val at Y2
  dsimp only at Y2
  have Y3 := Lib.hid (fun W => may_lit (⟨0, [], []⟩ : Evr) true false W ⟨by decide, by decide, by decide⟩ (by decide +kernel))
  unfold Evr.val at Y3
  dsimp only at Y3
  rw [show bs [] = (⟨#[]⟩ : ByteArray) from rfl] at Y3
  have Z0 := Lib.hid (fun W => cmp_ev (⟨0, [49, 126, 114, 99], [49]⟩ : Evr) (⟨0, [49], [49]⟩ : Evr) (-1) W (by decide) (by decide) (by decide +kernel))
  unfold Evr.val at Z0
  dsimp only at Z0
  have Z1 := Lib.hid (fun W => cmp_ev (⟨0, [49], [49]⟩ : Evr) (⟨0, [49, 94, 112, 111, 115, 116], [49]⟩ : Evr) (-1) W (by decide) (by decide) (by decide +kernel))
  unfold Evr.val at Z1
  dsimp only at Z1
  have Z2 := Lib.hid (fun W => cmp_ev (⟨0, [49, 94, 112, 111, 115, 116], [49]⟩ : Evr) (⟨0, [49, 46, 48], [49]⟩ : Evr) (-1) W (by decide) (by decide) (by decide +kernel))
  unfold Evr.val at Z2
  dsimp only at Z2
  have Z3 := Lib.hid (fun W => cmp_ev (⟨0, [49, 46, 97], [49]⟩ : Evr) (⟨0, [49, 46, 48], [49]⟩ : Evr) (-1) W (by decide) (by decide) (by decide +kernel))
  unfold Evr.val at Z3
  dsimp only at Z3
  have Z4 := Lib.hid (fun W => cmp_ev (⟨0, [49, 46, 48], [49]⟩ : Evr) (⟨0, [49, 95, 48], [49]⟩ : Evr) (0) W (by decide) (by decide) (by decide +kernel))
  unfold Evr.val at Z4
  dsimp only at Z4
  have Z5 := Lib.hid (fun W => cmp_ev (⟨0, [57], [57]⟩ : Evr) (⟨1, [49], []⟩ : Evr) (-1) W (by decide) (by decide) (by decide +kernel))
  unfold Evr.val at Z5
  dsimp only at Z5
  clear hI
  generalize hMM : rep 65 49 = M at *
  generalize hMN : rep 64 49 = M2 at *
  generalize hMO : rep 64 122 = M3 at *
  clear hMM hMN hMO
  have B0 : Below w.heap.size w w := Below.refl _ _
  go_enter Tryd.func18, Tryd.ntmps18
  go_wp2_with fail
  go_at_call 45
  refine (WK.out _ B0).mono ?_
  rintro e1 w1 ⟨rfl, h⟩
  have B1 := B0.trans (h.mono B0.size)
  clear h
  go_wp2_with fail
  go_at_call 46
  refine (MA.out _).mono ?_
  rintro e w' ⟨rfl, rfl⟩
  go_wp2_with fail
  go_at_call 46
  refine (MA.out _).mono ?_
  rintro e w' ⟨rfl, rfl⟩
  go_wp2_with fail
  have F := fresh_l1 ⟨#[]⟩ ⟨#[45, 49]⟩ ⟨#[49, 58]⟩ ⟨#[97, 58, 49]⟩ ⟨#[45, 49, 58, 49]⟩ ⟨#[43, 49, 58, 49]⟩ ⟨#[49, 58, 49, 58, 49]⟩ ⟨#[49, 32]⟩ ⟨#[49, 47, 50]⟩ ⟨#[50, 49, 52, 55, 52, 56, 51, 54, 52, 56, 58, 49]⟩ ⟨#[57, 57, 57, 57, 57, 57, 57, 57, 57, 57, 57, 57, 57, 57, 57, 57, 57, 57, 57, 57, 58, 49]⟩ M (⟨#[49, 45]⟩ ++ M) ⟨#[49, 58, 45, 49]⟩ ⟨#[128]⟩ B1 B1.size
  dsimp only at F
  generalize w1.alloc (Obj.cells #[Value.string { data := #[] }, Value.string { data := #[45, 49] }, Value.string { data := #[49, 58] }, Value.string { data := #[97, 58, 49] }, Value.string { data := #[45, 49, 58, 49] }, Value.string { data := #[43, 49, 58, 49] }, Value.string { data := #[49, 58, 49, 58, 49] }, Value.string { data := #[49, 32] }, Value.string { data := #[49, 47, 50] }, Value.string { data := #[50, 49, 52, 55, 52, 56, 51, 54, 52, 56, 58, 49] }, Value.string { data := #[57, 57, 57, 57, 57, 57, 57, 57, 57, 57, 57, 57, 57, 57, 57, 57, 57, 57, 57, 57, 58, 49] }, Value.string M, Value.string ({ data := #[49, 45] } ++ M), Value.string { data := #[49, 58, 45, 49] }, Value.string { data := #[128] }] 9) = Vg1 at *
  generalize w1.heap.size = g1 at *
  clear B1
  have S0' := F
  clear F
  obtain ⟨c0_0, c0_1, c0_2, c0_3, c0_4, c0_5, c0_6, c0_7, c0_8, c0_9, c0_10, c0_11, c0_12, c0_13, c0_14, l0, lg, hB⟩ := id S0'
  refine wp_loop_rounds 16 ?_
  rw [rounds_succ]
  go_wp2_with fail
  go_at_call 47
  refine (X0.out _ hB).mono ?_
  rintro e w' ⟨rfl, h⟩
  have S1' := keep_l1 S0' h
  clear c0_0 c0_1 c0_2 c0_3 c0_4 c0_5 c0_6 c0_7 c0_8 c0_9 c0_10 c0_11 c0_12 c0_13 c0_14 l0 lg hB S0' h
  obtain ⟨c0_0, c0_1, c0_2, c0_3, c0_4, c0_5, c0_6, c0_7, c0_8, c0_9, c0_10, c0_11, c0_12, c0_13, c0_14, l0, lg, hB⟩ := id S1'
  go_wp2_with fail
  rw [rounds_succ]
  go_wp2_with fail
  go_at_call 47
  refine (X1.out _ hB).mono ?_
  rintro e w' ⟨rfl, h⟩
  have S2' := keep_l1 S1' h
  clear c0_0 c0_1 c0_2 c0_3 c0_4 c0_5 c0_6 c0_7 c0_8 c0_9 c0_10 c0_11 c0_12 c0_13 c0_14 l0 lg hB S1' h
  obtain ⟨c0_0, c0_1, c0_2, c0_3, c0_4, c0_5, c0_6, c0_7, c0_8, c0_9, c0_10, c0_11, c0_12, c0_13, c0_14, l0, lg, hB⟩ := id S2'
  go_wp2_with fail
  rw [rounds_succ]
  go_wp2_with fail
  go_at_call 47
  refine (X2.out _ hB).mono ?_
  rintro e w' ⟨rfl, h⟩
  have S3' := keep_l1 S2' h
  clear c0_0 c0_1 c0_2 c0_3 c0_4 c0_5 c0_6 c0_7 c0_8 c0_9 c0_10 c0_11 c0_12 c0_13 c0_14 l0 lg hB S2' h
  obtain ⟨c0_0, c0_1, c0_2, c0_3, c0_4, c0_5, c0_6, c0_7, c0_8, c0_9, c0_10, c0_11, c0_12, c0_13, c0_14, l0, lg, hB⟩ := id S3'
  go_wp2_with fail
  rw [rounds_succ]
  go_wp2_with fail
  go_at_call 47
  refine (X3.out _ hB).mono ?_
  rintro e w' ⟨rfl, h⟩
  have S4' := keep_l1 S3' h
  clear c0_0 c0_1 c0_2 c0_3 c0_4 c0_5 c0_6 c0_7 c0_8 c0_9 c0_10 c0_11 c0_12 c0_13 c0_14 l0 lg hB S3' h
  obtain ⟨c0_0, c0_1, c0_2, c0_3, c0_4, c0_5, c0_6, c0_7, c0_8, c0_9, c0_10, c0_11, c0_12, c0_13, c0_14, l0, lg, hB⟩ := id S4'
  go_wp2_with fail
  rw [rounds_succ]
  go_wp2_with fail
  go_at_call 47
  refine (X4.out _ hB).mono ?_
  rintro e w' ⟨rfl, h⟩
  have S5' := keep_l1 S4' h
  clear c0_0 c0_1 c0_2 c0_3 c0_4 c0_5 c0_6 c0_7 c0_8 c0_9 c0_10 c0_11 c0_12 c0_13 c0_14 l0 lg hB S4' h
  obtain ⟨c0_0, c0_1, c0_2, c0_3, c0_4, c0_5, c0_6, c0_7, c0_8, c0_9, c0_10, c0_11, c0_12, c0_13, c0_14, l0, lg, hB⟩ := id S5'
  go_wp2_with fail
  rw [rounds_succ]
  go_wp2_with fail
  go_at_call 47
  refine (X5.out _ hB).mono ?_
  rintro e w' ⟨rfl, h⟩
  have S6' := keep_l1 S5' h
  clear c0_0 c0_1 c0_2 c0_3 c0_4 c0_5 c0_6 c0_7 c0_8 c0_9 c0_10 c0_11 c0_12 c0_13 c0_14 l0 lg hB S5' h
  obtain ⟨c0_0, c0_1, c0_2, c0_3, c0_4, c0_5, c0_6, c0_7, c0_8, c0_9, c0_10, c0_11, c0_12, c0_13, c0_14, l0, lg, hB⟩ := id S6'
  go_wp2_with fail
  rw [rounds_succ]
  go_wp2_with fail
  go_at_call 47
  refine (X6.out _ hB).mono ?_
  rintro e w' ⟨rfl, h⟩
  have S7' := keep_l1 S6' h
  clear c0_0 c0_1 c0_2 c0_3 c0_4 c0_5 c0_6 c0_7 c0_8 c0_9 c0_10 c0_11 c0_12 c0_13 c0_14 l0 lg hB S6' h
  obtain ⟨c0_0, c0_1, c0_2, c0_3, c0_4, c0_5, c0_6, c0_7, c0_8, c0_9, c0_10, c0_11, c0_12, c0_13, c0_14, l0, lg, hB⟩ := id S7'
  go_wp2_with fail
  rw [rounds_succ]
  go_wp2_with fail
  go_at_call 47
  refine (X7.out _ hB).mono ?_
  rintro e w' ⟨rfl, h⟩
  have S8' := keep_l1 S7' h
  clear c0_0 c0_1 c0_2 c0_3 c0_4 c0_5 c0_6 c0_7 c0_8 c0_9 c0_10 c0_11 c0_12 c0_13 c0_14 l0 lg hB S7' h
  obtain ⟨c0_0, c0_1, c0_2, c0_3, c0_4, c0_5, c0_6, c0_7, c0_8, c0_9, c0_10, c0_11, c0_12, c0_13, c0_14, l0, lg, hB⟩ := id S8'
  go_wp2_with fail
  rw [rounds_succ]
  go_wp2_with fail
  go_at_call 47
  refine (X8.out _ hB).mono ?_
  rintro e w' ⟨rfl, h⟩
  have S9' := keep_l1 S8' h
  clear c0_0 c0_1 c0_2 c0_3 c0_4 c0_5 c0_6 c0_7 c0_8 c0_9 c0_10 c0_11 c0_12 c0_13 c0_14 l0 lg hB S8' h
  obtain ⟨c0_0, c0_1, c0_2, c0_3, c0_4, c0_5, c0_6, c0_7, c0_8, c0_9, c0_10, c0_11, c0_12, c0_13, c0_14, l0, lg, hB⟩ := id S9'
  go_wp2_with fail
  rw [rounds_succ]
  go_wp2_with fail
  go_at_call 47
  refine (X9.out _ hB).mono ?_
  rintro e w' ⟨rfl, h⟩
  have S10' := keep_l1 S9' h
  clear c0_0 c0_1 c0_2 c0_3 c0_4 c0_5 c0_6 c0_7 c0_8 c0_9 c0_10 c0_11 c0_12 c0_13 c0_14 l0 lg hB S9' h
  obtain ⟨c0_0, c0_1, c0_2, c0_3, c0_4, c0_5, c0_6, c0_7, c0_8, c0_9, c0_10, c0_11, c0_12, c0_13, c0_14, l0, lg, hB⟩ := id S10'
  go_wp2_with fail
  rw [rounds_succ]
  go_wp2_with fail
  go_at_call 47
  refine (X10.out _ hB).mono ?_
  rintro e w' ⟨rfl, h⟩
  have S11' := keep_l1 S10' h
  clear c0_0 c0_1 c0_2 c0_3 c0_4 c0_5 c0_6 c0_7 c0_8 c0_9 c0_10 c0_11 c0_12 c0_13 c0_14 l0 lg hB S10' h
  obtain ⟨c0_0, c0_1, c0_2, c0_3, c0_4, c0_5, c0_6, c0_7, c0_8, c0_9, c0_10, c0_11, c0_12, c0_13, c0_14, l0, lg, hB⟩ := id S11'
  go_wp2_with fail
  rw [rounds_succ]
  go_wp2_with fail
  go_at_call 47
  refine (X11.out _ hB).mono ?_
  rintro e w' ⟨rfl, h⟩
  have S12' := keep_l1 S11' h
  clear c0_0 c0_1 c0_2 c0_3 c0_4 c0_5 c0_6 c0_7 c0_8 c0_9 c0_10 c0_11 c0_12 c0_13 c0_14 l0 lg hB S11' h
  obtain ⟨c0_0, c0_1, c0_2, c0_3, c0_4, c0_5, c0_6, c0_7, c0_8, c0_9, c0_10, c0_11, c0_12, c0_13, c0_14, l0, lg, hB⟩ := id S12'
  go_wp2_with fail
  rw [rounds_succ]
  go_wp2_with fail
  go_at_call 47
  refine (X12.out _ hB).mono ?_
  rintro e w' ⟨rfl, h⟩
  have S13' := keep_l1 S12' h
  clear c0_0 c0_1 c0_2 c0_3 c0_4 c0_5 c0_6 c0_7 c0_8 c0_9 c0_10 c0_11 c0_12 c0_13 c0_14 l0 lg hB S12' h
  obtain ⟨c0_0, c0_1, c0_2, c0_3, c0_4, c0_5, c0_6, c0_7, c0_8, c0_9, c0_10, c0_11, c0_12, c0_13, c0_14, l0, lg, hB⟩ := id S13'
  go_wp2_with fail
  rw [rounds_succ]
  go_wp2_with fail
  go_at_call 47
  refine (X13.out _ hB).mono ?_
  rintro e w' ⟨rfl, h⟩
  have S14' := keep_l1 S13' h
  clear c0_0 c0_1 c0_2 c0_3 c0_4 c0_5 c0_6 c0_7 c0_8 c0_9 c0_10 c0_11 c0_12 c0_13 c0_14 l0 lg hB S13' h
  obtain ⟨c0_0, c0_1, c0_2, c0_3, c0_4, c0_5, c0_6, c0_7, c0_8, c0_9, c0_10, c0_11, c0_12, c0_13, c0_14, l0, lg, hB⟩ := id S14'
  go_wp2_with fail
  rw [rounds_succ]
  go_wp2_with fail
  go_at_call 47
  refine (X14.out _ hB).mono ?_
  rintro e w90 ⟨rfl, h⟩
  have S15' := keep_l1 S14' h
  clear c0_0 c0_1 c0_2 c0_3 c0_4 c0_5 c0_6 c0_7 c0_8 c0_9 c0_10 c0_11 c0_12 c0_13 c0_14 l0 lg hB S14' h
  obtain ⟨c0_0, c0_1, c0_2, c0_3, c0_4, c0_5, c0_6, c0_7, c0_8, c0_9, c0_10, c0_11, c0_12, c0_13, c0_14, l0, lg, hB⟩ := id S15'
  go_wp2_with fail
  rw [rounds_succ]
  have B90 := tail_l1 S15'
  clear c0_0 c0_1 c0_2 c0_3 c0_4 c0_5 c0_6 c0_7 c0_8 c0_9 c0_10 c0_11 c0_12 c0_13 c0_14 l0 lg hB S15'
  go_wp2_with fail
  go_at_call 46
  refine (MB.out _).mono ?_
  rintro e w' ⟨rfl, rfl⟩
  go_wp2_with fail
  go_at_call 46
  refine (MC.out _).mono ?_
  rintro e w' ⟨rfl, rfl⟩
  go_wp2_with fail
  have F := fresh_l2 ⟨#[50, 49, 52, 55, 52, 56, 51, 54, 52, 55, 58, 49]⟩ (M2 ++ ⟨#[45]⟩ ++ M3) ⟨#[126]⟩ ⟨#[94]⟩ ⟨#[97, 43, 98, 95, 99, 46, 100, 126, 101, 94, 102, 45, 49]⟩ ⟨#[49, 48, 58, 48]⟩ B90 B90.size
  dsimp only at F
  generalize w90.alloc (Obj.cells #[Value.string { data := #[50, 49, 52, 55, 52, 56, 51, 54, 52, 55, 58, 49] }, Value.string (M2 ++ { data := #[45] } ++ M3), Value.string { data := #[126] }, Value.string { data := #[94] }, Value.string { data := #[97, 43, 98, 95, 99, 46, 100, 126, 101, 94, 102, 45, 49] }, Value.string { data := #[49, 48, 58, 48] }] 9) = Vg2 at *
  generalize w90.heap.size = g2 at *
  clear B90
  have S0' := F
  clear F
  obtain ⟨c0_0, c0_1, c0_2, c0_3, c0_4, c0_5, l0, lg, hB⟩ := id S0'
  refine wp_loop_rounds 7 ?_
  rw [rounds_succ]
  go_wp2_with fail
  go_at_call 49
  refine (O0.out _ hB).mono ?_
  rintro e w' ⟨rfl, h⟩
  have T0' := keep_l2 S0' h
  clear c0_0 c0_1 c0_2 c0_3 c0_4 c0_5 l0 lg hB S0' h
  obtain ⟨c0_0, c0_1, c0_2, c0_3, c0_4, c0_5, l0, lg, hB⟩ := id T0'
  go_wp2_with fail
  go_at_call 48
  refine (S0.out _ hB).mono ?_
  rintro e w'' ⟨rfl, h⟩
  have S1' := keep_l2 T0' h
  clear c0_0 c0_1 c0_2 c0_3 c0_4 c0_5 l0 lg hB T0' h
  obtain ⟨c0_0, c0_1, c0_2, c0_3, c0_4, c0_5, l0, lg, hB⟩ := id S1'
  go_wp2_with fail
  rw [rounds_succ]
  go_wp2_with fail
  go_at_call 49
  refine (O1.out _ hB).mono ?_
  rintro e w' ⟨rfl, h⟩
  have T1' := keep_l2 S1' h
  clear c0_0 c0_1 c0_2 c0_3 c0_4 c0_5 l0 lg hB S1' h
  obtain ⟨c0_0, c0_1, c0_2, c0_3, c0_4, c0_5, l0, lg, hB⟩ := id T1'
  go_wp2_with fail
  go_at_call 48
  refine (S1.out _ hB).mono ?_
  rintro e w'' ⟨rfl, h⟩
  have S2' := keep_l2 T1' h
  clear c0_0 c0_1 c0_2 c0_3 c0_4 c0_5 l0 lg hB T1' h
  obtain ⟨c0_0, c0_1, c0_2, c0_3, c0_4, c0_5, l0, lg, hB⟩ := id S2'
  go_wp2_with fail
  rw [rounds_succ]
  go_wp2_with fail
  go_at_call 49
  refine (O2.out _ hB).mono ?_
  rintro e w' ⟨rfl, h⟩
  have T2' := keep_l2 S2' h
  clear c0_0 c0_1 c0_2 c0_3 c0_4 c0_5 l0 lg hB S2' h
  obtain ⟨c0_0, c0_1, c0_2, c0_3, c0_4, c0_5, l0, lg, hB⟩ := id T2'
  go_wp2_with fail
  go_at_call 48
  refine (S2.out _ hB).mono ?_
  rintro e w'' ⟨rfl, h⟩
  have S3' := keep_l2 T2' h
  clear c0_0 c0_1 c0_2 c0_3 c0_4 c0_5 l0 lg hB T2' h
  obtain ⟨c0_0, c0_1, c0_2, c0_3, c0_4, c0_5, l0, lg, hB⟩ := id S3'
  go_wp2_with fail
  rw [rounds_succ]
  go_wp2_with fail
  go_at_call 49
  refine (O3.out _ hB).mono ?_
  rintro e w' ⟨rfl, h⟩
  have T3' := keep_l2 S3' h
  clear c0_0 c0_1 c0_2 c0_3 c0_4 c0_5 l0 lg hB S3' h
  obtain ⟨c0_0, c0_1, c0_2, c0_3, c0_4, c0_5, l0, lg, hB⟩ := id T3'
  go_wp2_with fail
  go_at_call 48
  refine (S3.out _ hB).mono ?_
  rintro e w'' ⟨rfl, h⟩
  have S4' := keep_l2 T3' h
  clear c0_0 c0_1 c0_2 c0_3 c0_4 c0_5 l0 lg hB T3' h
  obtain ⟨c0_0, c0_1, c0_2, c0_3, c0_4, c0_5, l0, lg, hB⟩ := id S4'
  go_wp2_with fail
  rw [rounds_succ]
  go_wp2_with fail
  go_at_call 49
  refine (O4.out _ hB).mono ?_
  rintro e w' ⟨rfl, h⟩
  have T4' := keep_l2 S4' h
  clear c0_0 c0_1 c0_2 c0_3 c0_4 c0_5 l0 lg hB S4' h
  obtain ⟨c0_0, c0_1, c0_2, c0_3, c0_4, c0_5, l0, lg, hB⟩ := id T4'
  go_wp2_with fail
  go_at_call 48
  refine (S4.out _ hB).mono ?_
  rintro e w'' ⟨rfl, h⟩
  have S5' := keep_l2 T4' h
  clear c0_0 c0_1 c0_2 c0_3 c0_4 c0_5 l0 lg hB T4' h
  obtain ⟨c0_0, c0_1, c0_2, c0_3, c0_4, c0_5, l0, lg, hB⟩ := id S5'
  go_wp2_with fail
  rw [rounds_succ]
  go_wp2_with fail
  go_at_call 49
  refine (O5.out _ hB).mono ?_
  rintro e w' ⟨rfl, h⟩
  have T5' := keep_l2 S5' h
  clear c0_0 c0_1 c0_2 c0_3 c0_4 c0_5 l0 lg hB S5' h
  obtain ⟨c0_0, c0_1, c0_2, c0_3, c0_4, c0_5, l0, lg, hB⟩ := id T5'
  go_wp2_with fail
  go_at_call 48
  refine (S5.out _ hB).mono ?_
  rintro e w95 ⟨rfl, h⟩
  have S6' := keep_l2 T5' h
  clear c0_0 c0_1 c0_2 c0_3 c0_4 c0_5 l0 lg hB T5' h
  obtain ⟨c0_0, c0_1, c0_2, c0_3, c0_4, c0_5, l0, lg, hB⟩ := id S6'
  go_wp2_with fail
  rw [rounds_succ]
  have B95 := tail_l2 S6'
  clear c0_0 c0_1 c0_2 c0_3 c0_4 c0_5 l0 lg hB S6'
  go_wp2_with fail
  go_at_call 48
  refine (F0.out _ B95).mono ?_
  rintro e96 w96 ⟨rfl, h⟩
  have B96 := B95.trans (h.mono B95.size)
  clear h
  go_wp2_with fail
  go_at_call 48
  refine (F1.out _ B96).mono ?_
  rintro e97 w97 ⟨rfl, h⟩
  have B97 := B96.trans (h.mono B96.size)
  clear h
  go_wp2_with fail
  go_at_call 48
  refine (F2.out _ B97).mono ?_
  rintro e98 w98 ⟨rfl, h⟩
  have B98 := B97.trans (h.mono B97.size)
  clear h
  go_wp2_with fail
  go_at_call 49
  refine (P0.out _ B98).mono ?_
  rintro e99 w99 ⟨rfl, h⟩
  have B99 := B98.trans (h.mono B98.size)
  clear h
  go_wp2_with fail
  go_at_call 50
  refine (Y0.out _).mono ?_
  rintro e100 w100 ⟨rfl, h⟩
  have B100 := B99.trans (h.mono B99.size)
  clear h
  go_wp2_with fail
  go_at_call 49
  refine (P0.out _ B100).mono ?_
  rintro e101 w101 ⟨rfl, h⟩
  have B101 := B100.trans (h.mono B100.size)
  clear h
  go_wp2_with fail
  go_at_call 50
  refine (Y1.out _).mono ?_
  rintro e102 w102 ⟨rfl, h⟩
  have B102 := B101.trans (h.mono B101.size)
  clear h
  go_wp2_with fail
  go_at_call 49
  refine (P1.out _ B102).mono ?_
  rintro e103 w103 ⟨rfl, h⟩
  have B103 := B102.trans (h.mono B102.size)
  clear h
  go_wp2_with fail
  go_at_call 50
  refine (Y2.out _).mono ?_
  rintro e104 w104 ⟨rfl, h⟩
  have B104 := B103.trans (h.mono B103.size)
  clear h
  go_wp2_with fail
  go_at_call 50
  refine (Y3.out _).mono ?_
  rintro e105 w105 ⟨rfl, h⟩
  have B105 := B104.trans (h.mono B104.size)
  clear h
  go_wp2_with fail
  go_at_call 49
  refine (P2.out _ B105).mono ?_
  rintro e106 w106 ⟨rfl, h⟩
  have B106 := B105.trans (h.mono B105.size)
  clear h
  go_wp2_with fail
  go_at_call 49
  refine (P1.out _ B106).mono ?_
  rintro e107 w107 ⟨rfl, h⟩
  have B107 := B106.trans (h.mono B106.size)
  clear h
  go_wp2_with fail
  go_at_call 29
  refine (Z0.out _).mono ?_
  rintro e108 w108 ⟨rfl, h⟩
  have B108 := B107.trans (h.mono B107.size)
  clear h
  go_wp2_with fail
  go_at_call 49
  refine (P1.out _ B108).mono ?_
  rintro e109 w109 ⟨rfl, h⟩
  have B109 := B108.trans (h.mono B108.size)
  clear h
  go_wp2_with fail
  go_at_call 49
  refine (P3.out _ B109).mono ?_
  rintro e110 w110 ⟨rfl, h⟩
  have B110 := B109.trans (h.mono B109.size)
  clear h
  go_wp2_with fail
  go_at_call 29
  refine (Z1.out _).mono ?_
  rintro e111 w111 ⟨rfl, h⟩
  have B111 := B110.trans (h.mono B110.size)
  clear h
  go_wp2_with fail
  go_at_call 49
  refine (P3.out _ B111).mono ?_
  rintro e112 w112 ⟨rfl, h⟩
  have B112 := B111.trans (h.mono B111.size)
  clear h
  go_wp2_with fail
  go_at_call 49
  refine (P4.out _ B112).mono ?_
  rintro e113 w113 ⟨rfl, h⟩
  have B113 := B112.trans (h.mono B112.size)
  clear h
  go_wp2_with fail
  go_at_call 29
  refine (Z2.out _).mono ?_
  rintro e114 w114 ⟨rfl, h⟩
  have B114 := B113.trans (h.mono B113.size)
  clear h
  go_wp2_with fail
  go_at_call 49
  refine (P5.out _ B114).mono ?_
  rintro e115 w115 ⟨rfl, h⟩
  have B115 := B114.trans (h.mono B114.size)
  clear h
  go_wp2_with fail
  go_at_call 49
  refine (P4.out _ B115).mono ?_
  rintro e116 w116 ⟨rfl, h⟩
  have B116 := B115.trans (h.mono B115.size)
  clear h
  go_wp2_with fail
  go_at_call 29
  refine (Z3.out _).mono ?_
  rintro e117 w117 ⟨rfl, h⟩
  have B117 := B116.trans (h.mono B116.size)
  clear h
  go_wp2_with fail
  go_at_call 49
  refine (P4.out _ B117).mono ?_
  rintro e118 w118 ⟨rfl, h⟩
  have B118 := B117.trans (h.mono B117.size)
  clear h
  go_wp2_with fail
  go_at_call 49
  refine (P6.out _ B118).mono ?_
  rintro e119 w119 ⟨rfl, h⟩
  have B119 := B118.trans (h.mono B118.size)
  clear h
  go_wp2_with fail
  go_at_call 29
  refine (Z4.out _).mono ?_
  rintro e120 w120 ⟨rfl, h⟩
  have B120 := B119.trans (h.mono B119.size)
  clear h
  go_wp2_with fail
  go_at_call 49
  refine (P7.out _ B120).mono ?_
  rintro e121 w121 ⟨rfl, h⟩
  have B121 := B120.trans (h.mono B120.size)
  clear h
  go_wp2_with fail
  go_at_call 49
  refine (P8.out _ B121).mono ?_
  rintro e122 w122 ⟨rfl, h⟩
  have B122 := B121.trans (h.mono B121.size)
  clear h
  go_wp2_with fail
  go_at_call 29
  refine (Z5.out _).mono ?_
  rintro e123 w123 ⟨rfl, h⟩
  have B123 := B122.trans (h.mono B122.size)
  clear h
  go_wp2
  go_ret
  exact ⟨rfl, B123⟩
end Go.Proofs.YtaibdghalhbpnaaDoor
