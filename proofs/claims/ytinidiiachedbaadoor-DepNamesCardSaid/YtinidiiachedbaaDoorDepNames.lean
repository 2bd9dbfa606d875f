/- DepNames, walked. -/
import Derived.Test.YtinidiiachedbaaDoorDepAwake
import Derived.Test.YtinidiiachedbaaDoorDepRefN
import Derived.Laws.IdiomStrings
namespace Go.Proofs.YtinidiiachedbaaDoor
open Go.RowKit Go.Shelf
set_option linter.unusedVariables false

theorem conv2b (c : UInt8) (g : Nat) (W : World) (h0 : W.cell? ⟨g, 0, none⟩ = some (.int .u8 97)) (h1 : W.cell? ⟨g, 1, none⟩ = some (.int .u8 (c.toNat : Int))) : (convert 33 9 (.slice (some ⟨g, 0, none⟩) 2 2)).run Tryd.prog W = .ok (.string (bs [97, c])) W :=
  run_convert_bytes_back _ _ _ 5 _ _ [97, c] Tryd.underlying33 Tryd.underlying5 Tryd.underlying9 (fun j hj => by
    match j, hj with
    | 0, _ => simpa [Addr.add] using h0
    | 1, _ => simpa [Addr.add] using h1)
theorem row_cells (W : World) (D : List ByteArray) (e : TypeId) (C : Array Value) (hC : C = (D.map Value.string).toArray) (W' : World) (h : Below (W.alloc (.cells C e)).heap.size (W.alloc (.cells C e)) W') (k : Nat) (hk : k < D.length) : W'.cell? ⟨W.heap.size, k, none⟩ = some (.string D[k]) := by
  subst hC
  exact (h.cell (p := ⟨W.heap.size, k, none⟩) (by simp)).trans ((World.cell?_alloc_at _ _ _ _ rfl).trans (by simp [List.getElem?_eq_getElem hk]))
theorem parse_no (s : ByteArray) (w : World) (hI : DpIn w) (hs : s.size ≤ 100) (h : dpOf (splitSp s.toList) = none) : Calls Tryd.prog 19 #[.string s] w fun e w' => e = .returned (.tuple #[.agg #[.string ⟨#[]⟩, .int .u8 0, .int .i64 0, .string ⟨#[]⟩, .string ⟨#[]⟩], .int .i64 4]) ∧ Below w.heap.size w w' := by
  have h2 := dparse_any s w (by omega) hI
  rw [h] at h2
  exact h2
theorem parse_one (s : ByteArray) (l : Bytes) (w : World) (hI : DpIn w) (hs : s.size ≤ 100) (hl : s.toList = l) (h : splitSp l = [l]) (hm : dmayB ⟨l, 0, zeroE⟩ = true) : Calls Tryd.prog 19 #[.string s] w fun e w' => e = .returned (.tuple #[.agg #[.string s, .int .u8 0, .int .i64 0, .string ⟨#[]⟩, .string ⟨#[]⟩], .int .i64 0]) ∧ Below w.heap.size w w' := by
  have h2 := dparse_any s w (by omega) hI
  rw [hl, h] at h2
  unfold dpOf at h2
  dsimp only at h2
  rw [if_pos hm] at h2
  unfold ofV Dp.val at h2
  dsimp only at h2
  rw [← hl, bs_of] at h2
  exact h2
theorem name_is (s : ByteArray) (r : Bool) (w : World) (hI : DpIn w) (hs : s.size ≤ 100) (h : nameB s.toList = r) : Calls Tryd.prog 17 #[.string s] w fun e w' => e = .returned (.bool r) ∧ Below w.heap.size w w' := by
  subst h; exact dname_any s w (by unfold maxLen; omega) hI
theorem file_is (s : ByteArray) (r : Bool) (w : World) (hI : DpIn w) (hs : s.size ≤ 100) (h : fileB s.toList = r) : Calls Tryd.prog 20 #[.string s] w fun e w' => e = .returned (.bool r) ∧ Below w.heap.size w w' := by
  subst h; exact dfile_any s w (by unfold maxLen; omega) hI
def mst (j : Nat) : ByteArray := bs (97 :: List.replicate j 45)
theorem mst_size (j : Nat) : (mst j).size = j + 1 := by unfold mst; rw [bs_size]; simp
theorem mst_next (j : Nat) : mst j ++ ⟨#[45]⟩ = mst (j + 1) := by
  unfold mst
  rw [List.replicate_succ', ← List.cons_append, ← bs_join]; rfl
theorem row_cellsV (W : World) (D : List Value) (e : TypeId) (C : Array Value) (hC : C = D.toArray) (W' : World) (h : Below (W.alloc (.cells C e)).heap.size (W.alloc (.cells C e)) W') (k : Nat) (hk : k < D.length) : W'.cell? ⟨W.heap.size, k, none⟩ = some D[k] := by
  subst hC
  exact (h.cell (p := ⟨W.heap.size, k, none⟩) (by simp)).trans ((World.cell?_alloc_at _ _ _ _ rfl).trans (by simp [List.getElem?_eq_getElem hk]))
theorem show_no (d : Dp) (v : Value) (hv : d.val = v) (w : World) (hI : DpIn w) (hw : d.wf) (hm : dmayB d = false) : Calls Tryd.prog 21 #[v] w fun e w' => e = .returned (.tuple #[.string ⟨#[]⟩, .int .i64 4]) ∧ Below w.heap.size w w' := by
  subst hv
  have h := dshow_any d w hw hI
  rw [showDV_no hm] at h
  exact h
theorem words_no2 (d : Dp) (v : Value) (hv : d.val = v) (w : World) (hI : DpIn w) (hw : d.wf) (hm : dmayB d = false) : Calls Tryd.prog 22 #[v] w fun e w' => ∃ A c, e = .returned (.tuple #[.slice A 0 c, .int .i64 4]) ∧ Below w.heap.size w w' := by
  subst hv
  have h := dwords_any d w hw hI
  unfold WordsPost at h
  rw [(wordsL_no hm).1, (wordsL_no hm).2] at h
  refine h.mono ?_
  rintro e w' ⟨A, c, he, _, _, hb⟩
  exact ⟨A, c, he, hb⟩
theorem may_is (d : Dp) (v : Value) (r : Bool) (hv : d.val = v) (w : World) (hI : DpIn w) (hw : d.wf) (hm : dmayB d = r) : Calls Tryd.prog 23 #[v] w fun e w' => e = .returned (.bool r) ∧ Below w.heap.size w w' := by
  subst hv; subst hm
  exact dmay_any d w hw hI
theorem of_no (A : Option Addr) (c n : Nat) (D : List ByteArray) (hn : n = D.length) (w : World) (hD : D.length ≤ 10) (hl : ∀ s ∈ D, s.size ≤ 100) (hT : TR w A D) (hI : DpIn w) (h : dpOf (D.map (·.toList)) = none) : Calls Tryd.prog 24 #[.slice A n c] w fun e w' => e = .returned (.tuple #[.agg #[.string ⟨#[]⟩, .int .u8 0, .int .i64 0, .string ⟨#[]⟩, .string ⟨#[]⟩], .int .i64 4]) ∧ Below w.heap.size w w' := by
  subst hn
  have h2 := dof_any A c D w (by omega) (fun s hs => by have := hl s hs; omega) hT hI
  rw [h] at h2
  exact h2
theorem vbox_cells (w : World) (a b c : Value) (e : TypeId) (o : Obj) (W' : World) (h : Below ((w.alloc (.cells #[a, b, c] e)).alloc o).heap.size ((w.alloc (.cells #[a, b, c] e)).alloc o) W') : W'.cell? ⟨w.heap.size, 0, none⟩ = some a ∧ W'.cell? ⟨w.heap.size, 1, none⟩ = some b ∧ W'.cell? ⟨w.heap.size, 2, none⟩ = some c :=
  ⟨(h.cell (p := ⟨w.heap.size, 0, none⟩) (by simp; omega)).trans ((World.cell?_alloc_past _ _ _ (by simp)).trans ((World.cell?_alloc_at _ _ _ _ rfl).trans rfl)), (h.cell (p := ⟨w.heap.size, 1, none⟩) (by simp; omega)).trans ((World.cell?_alloc_past _ _ _ (by simp)).trans ((World.cell?_alloc_at _ _ _ _ rfl).trans rfl)), (h.cell (p := ⟨w.heap.size, 2, none⟩) (by simp; omega)).trans ((World.cell?_alloc_past _ _ _ (by simp)).trans ((World.cell?_alloc_at _ _ _ _ rfl).trans rfl))⟩
theorem own_v (s : ByteArray) (w : World) : Calls Tryd.prog 25 #[.string s, .agg #[.int .i64 0, .string ⟨#[49]⟩, .string ⟨#[]⟩]] w fun e w' => e = .returned (.agg #[.string s, .int .u8 2, .int .i64 0, .string ⟨#[49]⟩, .string ⟨#[]⟩]) ∧ Below w.heap.size w w' := down_any s ⟨0, [49], []⟩ w
theorem none_op3 {n o v : Bytes} (ho : (opOf o).2 = false ∨ (opOf o).1 = 0) : dpOf [n, o, v] = none := by
  unfold dpOf; dsimp only; split
  · rw [if_neg]; rintro ⟨a, b, _⟩; rcases ho with ho | ho
    · rw [ho] at a; cases a
    · exact b ho
  · rfl
theorem bs_toList' (l : Bytes) : (⟨l.toArray⟩ : ByteArray).toList = l := bs_toList l
theorem of_new (X : World) (o : Obj) (D : List ByteArray) (C : Array Value) (m n c : Nat) (hm : m = X.heap.size + 1) (hC : C = (D.map Value.string).toArray) (hn : n = D.length) {w : World} (hB : Below w.heap.size w X) (hI : DpIn w) (hD : D.length ≤ 10) (hl : ∀ s ∈ D, s.size ≤ 100) (h : dpOf (D.map (·.toList)) = none) :
    Calls Tryd.prog 24 #[.slice (some ⟨m, 0, none⟩) n c] ((X.alloc o).alloc (.cells C 9)) fun e w' => e = .returned (.tuple #[.agg #[.string ⟨#[]⟩, .int .u8 0, .int .i64 0, .string ⟨#[]⟩, .string ⟨#[]⟩], .int .i64 4]) ∧ Below X.heap.size X w' := by
  subst hC
  have hs : m = (X.alloc o).heap.size := by rw [hm]; simp
  subst hs
  have b1 : Below X.heap.size X ((X.alloc o).alloc (.cells (D.map Value.string).toArray 9)) := ((Below.refl _ X).alloc (Nat.le_refl _) o).alloc (by simp) _
  refine (of_no _ c n D hn _ hD hl (TR.new (X.alloc o) D 9) (hI.below (hB.trans (b1.mono hB.size))) h).mono ?_
  rintro e w' ⟨he, hb⟩
  exact ⟨he, b1.trans (hb.mono b1.size)⟩
def strLen (v : Value) : Nat := match v with | .string s => s.size | _ => 0
theorem cell_after {X W : World} {p : Addr} {v : Value} (hb : Below X.heap.size X W) (h : X.cell? p = some v) (hl : p.block < X.heap.size) : W.cell? p = some v := (hb.cell hl).trans h
theorem bk_any {w W W' : World} (h : Below w.heap.size w W) (hb : Below W.heap.size W W') : Below w.heap.size w W' := h.trans (hb.mono h.size)
set_option maxRecDepth 100000 in
set_option maxHeartbeats 16000000 in
theorem depNames_row (w : World) (hI : DpIn w) : Calls Tryd.prog 5 #[] w fun e w' => e = .returned (.bool true) ∧ Below w.heap.size w w' := by
  have NA := Lib.hid (fun (c : UInt8) W (h : Below w.heap.size w W) => dname_any (bs [97, c]) W (by rw [bs_size]; show 2 ≤ maxLen; decide) (hI.below h))
  have NR := Lib.hid (fun (c : UInt8) W => rdname_any (bs [97, c]) W (by rw [bs_size]; show 2 ≤ maxLen; decide))
  go_enter Tryd.func5, Tryd.ntmps5
  go_wp2_with fail
  go_loopw [1] (fun i wr => ∃ k : Nat, k ≤ 256 ∧ i = .int .i64 (k : Int) ∧ Below w.heap.size w wr) (fun i _ => 256 - (intOf i).toNat)
  case atStart => exact ⟨0, by omega, rfl, Below.refl _ _⟩
  case round =>
    obtain ⟨k, hk, rfl, hB⟩ := hrel
    rename World => wr
    by_cases hlt : k < 256
    · have hkc : ((UInt8.ofNat k).toNat : Int) = (k : Int) := by rw [UInt8.toNat_ofNat']; omega
      have CV := fun g W => conv2b (UInt8.ofNat k) g W
      have hw8 : IntKind.u8.wrap (k : Int) = (k : Int) := by rw [IntKind.wrap_u8]; omega
      rw [hkc, ← hw8] at CV
      clear hw8
      have N1 := Lib.hid (NA.out (UInt8.ofNat k))
      have N2 := Lib.hid (NR.out (UInt8.ofNat k))
      rw [bs_toList] at N1 N2
      generalize nameB [97, UInt8.ofNat k] = r at *
      generalize bs [97, UInt8.ofNat k] = T at *
      have i0 : (0 : Int) ≤ (k : Int) := by omega
      have i1 : (k : Int) ≤ 255 := by omega
      have i2 : (k : Int) < 256 := by omega
      have hsz := hB.size
      clear hkc NA NR hk hlt
      go_wp2_with fail
      have b1 := (hB.alloc hsz (.cells #[.int .u8 97, .int .u8 (IntKind.u8.wrap (k : Int))] 5)).drew
      have b2 := ((hB.alloc hsz (.cells #[.int .u8 97, .int .u8 (IntKind.u8.wrap (k : Int))] 5)).alloc (by simp; omega) (.cells #[.int .u8 97, .int .u8 (IntKind.u8.wrap (k : Int))] 5)).drew
      have e10 : (wr.alloc (.cells #[.int .u8 97, .int .u8 (IntKind.u8.wrap (k : Int))] 5)).drew.cell? ⟨wr.heap.size, 0, none⟩ = some (.int .u8 97) := (World.cell?_alloc_at _ _ _ _ rfl).trans rfl
      have e11 : (wr.alloc (.cells #[.int .u8 97, .int .u8 (IntKind.u8.wrap (k : Int))] 5)).drew.cell? ⟨wr.heap.size, 1, none⟩ = some (.int .u8 (IntKind.u8.wrap (k : Int))) := (World.cell?_alloc_at _ _ _ _ rfl).trans rfl
      have l1 : wr.heap.size < (wr.alloc (.cells #[.int .u8 97, .int .u8 (IntKind.u8.wrap (k : Int))] 5)).drew.heap.size := by show wr.heap.size < (wr.alloc _).heap.size; simp
      have e20 : ((wr.alloc (.cells #[.int .u8 97, .int .u8 (IntKind.u8.wrap (k : Int))] 5)).alloc (.cells #[.int .u8 97, .int .u8 (IntKind.u8.wrap (k : Int))] 5)).drew.cell? ⟨wr.heap.size, 0, none⟩ = some (.int .u8 97) := (World.cell?_alloc_past _ _ _ (by simp)).trans ((World.cell?_alloc_at _ _ _ _ rfl).trans rfl)
      have e21 : ((wr.alloc (.cells #[.int .u8 97, .int .u8 (IntKind.u8.wrap (k : Int))] 5)).alloc (.cells #[.int .u8 97, .int .u8 (IntKind.u8.wrap (k : Int))] 5)).drew.cell? ⟨wr.heap.size, 1, none⟩ = some (.int .u8 (IntKind.u8.wrap (k : Int))) := (World.cell?_alloc_past _ _ _ (by simp)).trans ((World.cell?_alloc_at _ _ _ _ rfl).trans rfl)
      have l2 : wr.heap.size < ((wr.alloc (.cells #[.int .u8 97, .int .u8 (IntKind.u8.wrap (k : Int))] 5)).alloc (.cells #[.int .u8 97, .int .u8 (IntKind.u8.wrap (k : Int))] 5)).drew.heap.size := by show wr.heap.size < ((wr.alloc _).alloc _).heap.size; simp; omega
      have e30 : ((wr.alloc (.cells #[.int .u8 97, .int .u8 (IntKind.u8.wrap (k : Int))] 5)).alloc (.cells #[.int .u8 97, .int .u8 (IntKind.u8.wrap (k : Int))] 5)).drew.cell? ⟨wr.heap.size + 1, 0, none⟩ = some (.int .u8 97) := (World.cell?_alloc_at _ _ _ _ (by simp)).trans rfl
      have e31 : ((wr.alloc (.cells #[.int .u8 97, .int .u8 (IntKind.u8.wrap (k : Int))] 5)).alloc (.cells #[.int .u8 97, .int .u8 (IntKind.u8.wrap (k : Int))] 5)).drew.cell? ⟨wr.heap.size + 1, 1, none⟩ = some (.int .u8 (IntKind.u8.wrap (k : Int))) := (World.cell?_alloc_at _ _ _ _ (by simp)).trans rfl
      have l3 : wr.heap.size + 1 < ((wr.alloc (.cells #[.int .u8 97, .int .u8 (IntKind.u8.wrap (k : Int))] 5)).alloc (.cells #[.int .u8 97, .int .u8 (IntKind.u8.wrap (k : Int))] 5)).drew.heap.size := by show wr.heap.size + 1 < ((wr.alloc _).alloc _).heap.size; simp
      go_region_with ((first | (go_at_call 17; (first | refine (N1.out _ b1).mono ?_ | refine (N1.out _ b2).mono ?_ | refine (N1.out _ hW2).mono ?_ | refine (N1.out _ (hW2.alloc hW2.size _)).mono ?_); rintro e w1 ⟨rfl, hb1⟩; (first | (have q1 := cell_after hb1 e10 l1; have q2 := cell_after hb1 e11 l1) | (have q1 := cell_after hb1 e20 l2; have q2 := cell_after hb1 e21 l2; have q3 := cell_after hb1 e30 l3; have q4 := cell_after hb1 e31 l3) | skip); obtain ⟨hc1, hf1⟩ := bcell hb1; (first | (have hW1 := bk_any b1 hb1) | (have hW1 := bk_any b2 hb1) | (have hW1 := bk_any hW2 hb1) | (have hW1 := bk_any (hW2.alloc hW2.size _) hb1))) | (go_at_call 18; refine (N2.out _).mono ?_; rintro e w2 ⟨rfl, hb2⟩; (first | (have q1 := cell_after hb2 e10 l1; have q2 := cell_after hb2 e11 l1) | (have q1 := cell_after hb2 e20 l2; have q2 := cell_after hb2 e21 l2; have q3 := cell_after hb2 e30 l3; have q4 := cell_after hb2 e31 l3) | skip); obtain ⟨hc2, hf2⟩ := bcell hb2; (first | (have hW2 := bk_any b1 hb2) | (have hW2 := bk_any b2 hb2) | (have hW2 := bk_any hW1 hb2) | (have hW2 := bk_any (hW1.alloc hW1.size _) hb2)))))
      all_goals
        go_wp2_with fail
        go_roundw
        case rel =>
          refine ⟨k + 1, by omega, by go_num, ?_⟩
          first | exact hW2 | exact hW1 | exact hW2.alloc hW2.size _ | exact hW1.alloc hW1.size _
        case measure => simp [intOf]; omega
    · have i2 : ¬ (k : Int) < 256 := by omega
      clear NA NR hk hlt
      go_wp2_with fail
      go_loop [2] (fun v => ∃ j : Nat, j ≤ 63 ∧ v = .string (mst j)) (fun v => 64 - (strLen v))
      case atStart => exact ⟨0, by omega, rfl⟩
      case round =>
        obtain ⟨j, hj, rfl⟩ := hrel
        have hs := mst_size j
        by_cases hj2 : j < 63
        · have HX := Lib.hid (mst_next j)
          have hz : ((mst j).size : Int) < 64 := by omega
          have hz2 : (mst j).size ≤ 100 := by omega
          clear hs
          go_wp2_with fail
          go_round
          case rel => exact ⟨j + 1, by omega, val_str HX.out⟩
          case measure => rw [HX.out]; show 64 - (mst (j + 1)).size < 64 - (mst j).size; rw [mst_size, mst_size]; omega
        · obtain rfl : j = 63 := by omega
          have hz : ¬ ((mst 63).size : Int) < 64 := by omega
          have hz2 : (mst 63).size ≤ 64 := by omega
          clear hs hj hj2
          generalize hM : mst 63 = M at *
          have HM := Lib.hid hM
          clear hM
          have hML : (M ++ ⟨#[97]⟩).toList = 97 :: (List.replicate 63 45 ++ [97]) := by rw [toList_append, ← HM.out, show (⟨#[97]⟩ : ByteArray).toList = [97] from bs_toList _]; unfold mst; rw [bs_toList]; rfl
          have hMA : (M ++ ⟨#[97]⟩).size ≤ 100 := by rw [ByteArray.size_append]; show _ + 1 ≤ 100; omega
          have P0 := Lib.hid (fun W (h : Below w.heap.size w W) => parse_no ⟨#[97, 110, 100]⟩ W (hI.below h) (by decide) (by rw [show (⟨#[97, 110, 100]⟩ : ByteArray).toList = [97, 110, 100] from bs_toList _]; exact none_one (n := [97, 110, 100]) (by decide +kernel) (by decide +kernel)))
          have N0 := Lib.hid (fun W (h : Below w.heap.size w W) => name_is ⟨#[97, 110, 100]⟩ false W (hI.below h) (by decide) (by rw [show (⟨#[97, 110, 100]⟩ : ByteArray).toList = [97, 110, 100] from bs_toList _]; decide +kernel))
          have F0 := Lib.hid (fun W (h : Below w.heap.size w W) => file_is ⟨#[97, 110, 100]⟩ false W (hI.below h) (by decide) (by rw [show (⟨#[97, 110, 100]⟩ : ByteArray).toList = [97, 110, 100] from bs_toList _]; decide +kernel))
          have P1 := Lib.hid (fun W (h : Below w.heap.size w W) => parse_no ⟨#[111, 114]⟩ W (hI.below h) (by decide) (by rw [show (⟨#[111, 114]⟩ : ByteArray).toList = [111, 114] from bs_toList _]; exact none_one (n := [111, 114]) (by decide +kernel) (by decide +kernel)))
          have N1 := Lib.hid (fun W (h : Below w.heap.size w W) => name_is ⟨#[111, 114]⟩ false W (hI.below h) (by decide) (by rw [show (⟨#[111, 114]⟩ : ByteArray).toList = [111, 114] from bs_toList _]; decide +kernel))
          have F1 := Lib.hid (fun W (h : Below w.heap.size w W) => file_is ⟨#[111, 114]⟩ false W (hI.below h) (by decide) (by rw [show (⟨#[111, 114]⟩ : ByteArray).toList = [111, 114] from bs_toList _]; decide +kernel))
          have P2 := Lib.hid (fun W (h : Below w.heap.size w W) => parse_no ⟨#[105, 102]⟩ W (hI.below h) (by decide) (by rw [show (⟨#[105, 102]⟩ : ByteArray).toList = [105, 102] from bs_toList _]; exact none_one (n := [105, 102]) (by decide +kernel) (by decide +kernel)))
          have N2 := Lib.hid (fun W (h : Below w.heap.size w W) => name_is ⟨#[105, 102]⟩ false W (hI.below h) (by decide) (by rw [show (⟨#[105, 102]⟩ : ByteArray).toList = [105, 102] from bs_toList _]; decide +kernel))
          have F2 := Lib.hid (fun W (h : Below w.heap.size w W) => file_is ⟨#[105, 102]⟩ false W (hI.below h) (by decide) (by rw [show (⟨#[105, 102]⟩ : ByteArray).toList = [105, 102] from bs_toList _]; decide +kernel))
          have P3 := Lib.hid (fun W (h : Below w.heap.size w W) => parse_no ⟨#[101, 108, 115, 101]⟩ W (hI.below h) (by decide) (by rw [show (⟨#[101, 108, 115, 101]⟩ : ByteArray).toList = [101, 108, 115, 101] from bs_toList _]; exact none_one (n := [101, 108, 115, 101]) (by decide +kernel) (by decide +kernel)))
          have N3 := Lib.hid (fun W (h : Below w.heap.size w W) => name_is ⟨#[101, 108, 115, 101]⟩ false W (hI.below h) (by decide) (by rw [show (⟨#[101, 108, 115, 101]⟩ : ByteArray).toList = [101, 108, 115, 101] from bs_toList _]; decide +kernel))
          have F3 := Lib.hid (fun W (h : Below w.heap.size w W) => file_is ⟨#[101, 108, 115, 101]⟩ false W (hI.below h) (by decide) (by rw [show (⟨#[101, 108, 115, 101]⟩ : ByteArray).toList = [101, 108, 115, 101] from bs_toList _]; decide +kernel))
          have P4 := Lib.hid (fun W (h : Below w.heap.size w W) => parse_no ⟨#[117, 110, 108, 101, 115, 115]⟩ W (hI.below h) (by decide) (by rw [show (⟨#[117, 110, 108, 101, 115, 115]⟩ : ByteArray).toList = [117, 110, 108, 101, 115, 115] from bs_toList _]; exact none_one (n := [117, 110, 108, 101, 115, 115]) (by decide +kernel) (by decide +kernel)))
          have N4 := Lib.hid (fun W (h : Below w.heap.size w W) => name_is ⟨#[117, 110, 108, 101, 115, 115]⟩ false W (hI.below h) (by decide) (by rw [show (⟨#[117, 110, 108, 101, 115, 115]⟩ : ByteArray).toList = [117, 110, 108, 101, 115, 115] from bs_toList _]; decide +kernel))
          have F4 := Lib.hid (fun W (h : Below w.heap.size w W) => file_is ⟨#[117, 110, 108, 101, 115, 115]⟩ false W (hI.below h) (by decide) (by rw [show (⟨#[117, 110, 108, 101, 115, 115]⟩ : ByteArray).toList = [117, 110, 108, 101, 115, 115] from bs_toList _]; decide +kernel))
          have P5 := Lib.hid (fun W (h : Below w.heap.size w W) => parse_no ⟨#[119, 105, 116, 104]⟩ W (hI.below h) (by decide) (by rw [show (⟨#[119, 105, 116, 104]⟩ : ByteArray).toList = [119, 105, 116, 104] from bs_toList _]; exact none_one (n := [119, 105, 116, 104]) (by decide +kernel) (by decide +kernel)))
          have N5 := Lib.hid (fun W (h : Below w.heap.size w W) => name_is ⟨#[119, 105, 116, 104]⟩ false W (hI.below h) (by decide) (by rw [show (⟨#[119, 105, 116, 104]⟩ : ByteArray).toList = [119, 105, 116, 104] from bs_toList _]; decide +kernel))
          have F5 := Lib.hid (fun W (h : Below w.heap.size w W) => file_is ⟨#[119, 105, 116, 104]⟩ false W (hI.below h) (by decide) (by rw [show (⟨#[119, 105, 116, 104]⟩ : ByteArray).toList = [119, 105, 116, 104] from bs_toList _]; decide +kernel))
          have P6 := Lib.hid (fun W (h : Below w.heap.size w W) => parse_no ⟨#[119, 105, 116, 104, 111, 117, 116]⟩ W (hI.below h) (by decide) (by rw [show (⟨#[119, 105, 116, 104, 111, 117, 116]⟩ : ByteArray).toList = [119, 105, 116, 104, 111, 117, 116] from bs_toList _]; exact none_one (n := [119, 105, 116, 104, 111, 117, 116]) (by decide +kernel) (by decide +kernel)))
          have N6 := Lib.hid (fun W (h : Below w.heap.size w W) => name_is ⟨#[119, 105, 116, 104, 111, 117, 116]⟩ false W (hI.below h) (by decide) (by rw [show (⟨#[119, 105, 116, 104, 111, 117, 116]⟩ : ByteArray).toList = [119, 105, 116, 104, 111, 117, 116] from bs_toList _]; decide +kernel))
          have F6 := Lib.hid (fun W (h : Below w.heap.size w W) => file_is ⟨#[119, 105, 116, 104, 111, 117, 116]⟩ false W (hI.below h) (by decide) (by rw [show (⟨#[119, 105, 116, 104, 111, 117, 116]⟩ : ByteArray).toList = [119, 105, 116, 104, 111, 117, 116] from bs_toList _]; decide +kernel))
          have P7 := Lib.hid (fun W (h : Below w.heap.size w W) => parse_no ⟨#[]⟩ W (hI.below h) (by decide) (by rw [show (⟨#[]⟩ : ByteArray).toList = [] from bs_toList _]; exact none_one (n := []) (by decide +kernel) (by decide +kernel)))
          have N7 := Lib.hid (fun W (h : Below w.heap.size w W) => name_is ⟨#[]⟩ false W (hI.below h) (by decide) (by rw [show (⟨#[]⟩ : ByteArray).toList = [] from bs_toList _]; decide +kernel))
          have F7 := Lib.hid (fun W (h : Below w.heap.size w W) => file_is ⟨#[]⟩ false W (hI.below h) (by decide) (by rw [show (⟨#[]⟩ : ByteArray).toList = [] from bs_toList _]; decide +kernel))
          have P8 := Lib.hid (fun W (h : Below w.heap.size w W) => parse_no (M ++ ⟨#[97]⟩) W (hI.below h) hMA (by rw [hML]; exact none_one (n := (97 :: (List.replicate 63 45 ++ [97]))) (by decide +kernel) (by decide +kernel)))
          have N8 := Lib.hid (fun W (h : Below w.heap.size w W) => name_is (M ++ ⟨#[97]⟩) false W (hI.below h) hMA (by rw [hML]; decide +kernel))
          have F8 := Lib.hid (fun W (h : Below w.heap.size w W) => file_is (M ++ ⟨#[97]⟩) false W (hI.below h) hMA (by rw [hML]; decide +kernel))
          have P9 := Lib.hid (fun W (h : Below w.heap.size w W) => parse_no ⟨#[97, 32, 98]⟩ W (hI.below h) (by decide) (by rw [show (⟨#[97, 32, 98]⟩ : ByteArray).toList = [97, 32, 98] from bs_toList _]; exact none_len (by decide +kernel) (by decide +kernel)))
          have N9 := Lib.hid (fun W (h : Below w.heap.size w W) => name_is ⟨#[97, 32, 98]⟩ false W (hI.below h) (by decide) (by rw [show (⟨#[97, 32, 98]⟩ : ByteArray).toList = [97, 32, 98] from bs_toList _]; decide +kernel))
          have F9 := Lib.hid (fun W (h : Below w.heap.size w W) => file_is ⟨#[97, 32, 98]⟩ false W (hI.below h) (by decide) (by rw [show (⟨#[97, 32, 98]⟩ : ByteArray).toList = [97, 32, 98] from bs_toList _]; decide +kernel))
          have P10 := Lib.hid (fun W (h : Below w.heap.size w W) => parse_no ⟨#[97, 40, 98, 41]⟩ W (hI.below h) (by decide) (by rw [show (⟨#[97, 40, 98, 41]⟩ : ByteArray).toList = [97, 40, 98, 41] from bs_toList _]; exact none_one (n := [97, 40, 98, 41]) (by decide +kernel) (by decide +kernel)))
          have N10 := Lib.hid (fun W (h : Below w.heap.size w W) => name_is ⟨#[97, 40, 98, 41]⟩ false W (hI.below h) (by decide) (by rw [show (⟨#[97, 40, 98, 41]⟩ : ByteArray).toList = [97, 40, 98, 41] from bs_toList _]; decide +kernel))
          have F10 := Lib.hid (fun W (h : Below w.heap.size w W) => file_is ⟨#[97, 40, 98, 41]⟩ false W (hI.below h) (by decide) (by rw [show (⟨#[97, 40, 98, 41]⟩ : ByteArray).toList = [97, 40, 98, 41] from bs_toList _]; decide +kernel))
          have P11 := Lib.hid (fun W (h : Below w.heap.size w W) => parse_no ⟨#[97, 44, 98]⟩ W (hI.below h) (by decide) (by rw [show (⟨#[97, 44, 98]⟩ : ByteArray).toList = [97, 44, 98] from bs_toList _]; exact none_one (n := [97, 44, 98]) (by decide +kernel) (by decide +kernel)))
          have N11 := Lib.hid (fun W (h : Below w.heap.size w W) => name_is ⟨#[97, 44, 98]⟩ false W (hI.below h) (by decide) (by rw [show (⟨#[97, 44, 98]⟩ : ByteArray).toList = [97, 44, 98] from bs_toList _]; decide +kernel))
          have F11 := Lib.hid (fun W (h : Below w.heap.size w W) => file_is ⟨#[97, 44, 98]⟩ false W (hI.below h) (by decide) (by rw [show (⟨#[97, 44, 98]⟩ : ByteArray).toList = [97, 44, 98] from bs_toList _]; decide +kernel))
          have P12 := Lib.hid (fun W (h : Below w.heap.size w W) => parse_no ⟨#[97, 61, 98]⟩ W (hI.below h) (by decide) (by rw [show (⟨#[97, 61, 98]⟩ : ByteArray).toList = [97, 61, 98] from bs_toList _]; exact none_one (n := [97, 61, 98]) (by decide +kernel) (by decide +kernel)))
          have N12 := Lib.hid (fun W (h : Below w.heap.size w W) => name_is ⟨#[97, 61, 98]⟩ false W (hI.below h) (by decide) (by rw [show (⟨#[97, 61, 98]⟩ : ByteArray).toList = [97, 61, 98] from bs_toList _]; decide +kernel))
          have F12 := Lib.hid (fun W (h : Below w.heap.size w W) => file_is ⟨#[97, 61, 98]⟩ false W (hI.below h) (by decide) (by rw [show (⟨#[97, 61, 98]⟩ : ByteArray).toList = [97, 61, 98] from bs_toList _]; decide +kernel))
          have P13 := Lib.hid (fun W (h : Below w.heap.size w W) => parse_no ⟨#[195, 164]⟩ W (hI.below h) (by decide) (by rw [show (⟨#[195, 164]⟩ : ByteArray).toList = [195, 164] from bs_toList _]; exact none_one (n := [195, 164]) (by decide +kernel) (by decide +kernel)))
          have N13 := Lib.hid (fun W (h : Below w.heap.size w W) => name_is ⟨#[195, 164]⟩ false W (hI.below h) (by decide) (by rw [show (⟨#[195, 164]⟩ : ByteArray).toList = [195, 164] from bs_toList _]; decide +kernel))
          have F13 := Lib.hid (fun W (h : Below w.heap.size w W) => file_is ⟨#[195, 164]⟩ false W (hI.below h) (by decide) (by rw [show (⟨#[195, 164]⟩ : ByteArray).toList = [195, 164] from bs_toList _]; decide +kernel))
          clear hML hMA
          go_wp2_with fail
          have HC := Lib.hid (fun W' (h : Below (wr.alloc (.cells #[.string ⟨#[97, 110, 100]⟩, .string ⟨#[111, 114]⟩, .string ⟨#[105, 102]⟩, .string ⟨#[101, 108, 115, 101]⟩, .string ⟨#[117, 110, 108, 101, 115, 115]⟩, .string ⟨#[119, 105, 116, 104]⟩, .string ⟨#[119, 105, 116, 104, 111, 117, 116]⟩, .string ⟨#[]⟩, .string (M ++ ⟨#[97]⟩), .string ⟨#[97, 32, 98]⟩, .string ⟨#[97, 40, 98, 41]⟩, .string ⟨#[97, 44, 98]⟩, .string ⟨#[97, 61, 98]⟩, .string ⟨#[195, 164]⟩] 9)).heap.size (wr.alloc (.cells #[.string ⟨#[97, 110, 100]⟩, .string ⟨#[111, 114]⟩, .string ⟨#[105, 102]⟩, .string ⟨#[101, 108, 115, 101]⟩, .string ⟨#[117, 110, 108, 101, 115, 115]⟩, .string ⟨#[119, 105, 116, 104]⟩, .string ⟨#[119, 105, 116, 104, 111, 117, 116]⟩, .string ⟨#[]⟩, .string (M ++ ⟨#[97]⟩), .string ⟨#[97, 32, 98]⟩, .string ⟨#[97, 40, 98, 41]⟩, .string ⟨#[97, 44, 98]⟩, .string ⟨#[97, 61, 98]⟩, .string ⟨#[195, 164]⟩] 9)) W') (k : Nat) (hk : k < 14) => row_cells wr [⟨#[97, 110, 100]⟩, ⟨#[111, 114]⟩, ⟨#[105, 102]⟩, ⟨#[101, 108, 115, 101]⟩, ⟨#[117, 110, 108, 101, 115, 115]⟩, ⟨#[119, 105, 116, 104]⟩, ⟨#[119, 105, 116, 104, 111, 117, 116]⟩, ⟨#[]⟩, (M ++ ⟨#[97]⟩), ⟨#[97, 32, 98]⟩, ⟨#[97, 40, 98, 41]⟩, ⟨#[97, 44, 98]⟩, ⟨#[97, 61, 98]⟩, ⟨#[195, 164]⟩] 9 #[.string ⟨#[97, 110, 100]⟩, .string ⟨#[111, 114]⟩, .string ⟨#[105, 102]⟩, .string ⟨#[101, 108, 115, 101]⟩, .string ⟨#[117, 110, 108, 101, 115, 115]⟩, .string ⟨#[119, 105, 116, 104]⟩, .string ⟨#[119, 105, 116, 104, 111, 117, 116]⟩, .string ⟨#[]⟩, .string (M ++ ⟨#[97]⟩), .string ⟨#[97, 32, 98]⟩, .string ⟨#[97, 40, 98, 41]⟩, .string ⟨#[97, 44, 98]⟩, .string ⟨#[97, 61, 98]⟩, .string ⟨#[195, 164]⟩] rfl W' h k hk)
          have BW := hB.alloc hB.size (.cells #[.string ⟨#[97, 110, 100]⟩, .string ⟨#[111, 114]⟩, .string ⟨#[105, 102]⟩, .string ⟨#[101, 108, 115, 101]⟩, .string ⟨#[117, 110, 108, 101, 115, 115]⟩, .string ⟨#[119, 105, 116, 104]⟩, .string ⟨#[119, 105, 116, 104, 111, 117, 116]⟩, .string ⟨#[]⟩, .string (M ++ ⟨#[97]⟩), .string ⟨#[97, 32, 98]⟩, .string ⟨#[97, 40, 98, 41]⟩, .string ⟨#[97, 44, 98]⟩, .string ⟨#[97, 61, 98]⟩, .string ⟨#[195, 164]⟩] 9)
          generalize wr.alloc (.cells #[.string ⟨#[97, 110, 100]⟩, .string ⟨#[111, 114]⟩, .string ⟨#[105, 102]⟩, .string ⟨#[101, 108, 115, 101]⟩, .string ⟨#[117, 110, 108, 101, 115, 115]⟩, .string ⟨#[119, 105, 116, 104]⟩, .string ⟨#[119, 105, 116, 104, 111, 117, 116]⟩, .string ⟨#[]⟩, .string (M ++ ⟨#[97]⟩), .string ⟨#[97, 32, 98]⟩, .string ⟨#[97, 40, 98, 41]⟩, .string ⟨#[97, 44, 98]⟩, .string ⟨#[97, 61, 98]⟩, .string ⟨#[195, 164]⟩] 9) = V3 at *
          generalize wr.heap.size = g3 at *
          clear hB
          have hB := Below.refl V3.heap.size V3
          refine wp_loop_rounds 15 ?_
          rw [rounds_succ]
          have c := HC.out _ hB 0 (by decide)
          simp only [List.getElem_cons_zero] at c
          go_wp2_with fail
          go_at_call 19
          refine (P0.out _ (BW.trans (hB.mono BW.size))).mono ?_
          rintro e wn ⟨rfl, h⟩
          have hB := hB.trans (h.mono hB.size)
          clear h
          clear c
          have hB := hB.alloc hB.size (.cells #[.string ⟨#[]⟩, .int .u8 0, .int .i64 0, .string ⟨#[]⟩, .string ⟨#[]⟩] 37)
          go_wp2_with fail
          go_at_call 17
          refine (N0.out _ (BW.trans (hB.mono BW.size))).mono ?_
          rintro e wn ⟨rfl, h⟩
          have hB := hB.trans (h.mono hB.size)
          clear h
          go_wp2_with fail
          go_at_call 20
          refine (F0.out _ (BW.trans (hB.mono BW.size))).mono ?_
          rintro e wn ⟨rfl, h⟩
          have hB := hB.trans (h.mono hB.size)
          clear h
          go_wp2_with fail
          rw [rounds_succ]
          have c := HC.out _ hB 1 (by decide)
          simp only [List.getElem_cons_zero, List.getElem_cons_succ] at c
          go_wp2_with fail
          go_at_call 19
          refine (P1.out _ (BW.trans (hB.mono BW.size))).mono ?_
          rintro e wn ⟨rfl, h⟩
          have hB := hB.trans (h.mono hB.size)
          clear h
          clear c
          have hB := hB.alloc hB.size (.cells #[.string ⟨#[]⟩, .int .u8 0, .int .i64 0, .string ⟨#[]⟩, .string ⟨#[]⟩] 37)
          go_wp2_with fail
          go_at_call 17
          refine (N1.out _ (BW.trans (hB.mono BW.size))).mono ?_
          rintro e wn ⟨rfl, h⟩
          have hB := hB.trans (h.mono hB.size)
          clear h
          go_wp2_with fail
          go_at_call 20
          refine (F1.out _ (BW.trans (hB.mono BW.size))).mono ?_
          rintro e wn ⟨rfl, h⟩
          have hB := hB.trans (h.mono hB.size)
          clear h
          go_wp2_with fail
          rw [rounds_succ]
          have c := HC.out _ hB 2 (by decide)
          simp only [List.getElem_cons_zero, List.getElem_cons_succ] at c
          go_wp2_with fail
          go_at_call 19
          refine (P2.out _ (BW.trans (hB.mono BW.size))).mono ?_
          rintro e wn ⟨rfl, h⟩
          have hB := hB.trans (h.mono hB.size)
          clear h
          clear c
          have hB := hB.alloc hB.size (.cells #[.string ⟨#[]⟩, .int .u8 0, .int .i64 0, .string ⟨#[]⟩, .string ⟨#[]⟩] 37)
          go_wp2_with fail
          go_at_call 17
          refine (N2.out _ (BW.trans (hB.mono BW.size))).mono ?_
          rintro e wn ⟨rfl, h⟩
          have hB := hB.trans (h.mono hB.size)
          clear h
          go_wp2_with fail
          go_at_call 20
          refine (F2.out _ (BW.trans (hB.mono BW.size))).mono ?_
          rintro e wn ⟨rfl, h⟩
          have hB := hB.trans (h.mono hB.size)
          clear h
          go_wp2_with fail
          rw [rounds_succ]
          have c := HC.out _ hB 3 (by decide)
          simp only [List.getElem_cons_zero, List.getElem_cons_succ] at c
          go_wp2_with fail
          go_at_call 19
          refine (P3.out _ (BW.trans (hB.mono BW.size))).mono ?_
          rintro e wn ⟨rfl, h⟩
          have hB := hB.trans (h.mono hB.size)
          clear h
          clear c
          have hB := hB.alloc hB.size (.cells #[.string ⟨#[]⟩, .int .u8 0, .int .i64 0, .string ⟨#[]⟩, .string ⟨#[]⟩] 37)
          go_wp2_with fail
          go_at_call 17
          refine (N3.out _ (BW.trans (hB.mono BW.size))).mono ?_
          rintro e wn ⟨rfl, h⟩
          have hB := hB.trans (h.mono hB.size)
          clear h
          go_wp2_with fail
          go_at_call 20
          refine (F3.out _ (BW.trans (hB.mono BW.size))).mono ?_
          rintro e wn ⟨rfl, h⟩
          have hB := hB.trans (h.mono hB.size)
          clear h
          go_wp2_with fail
          rw [rounds_succ]
          have c := HC.out _ hB 4 (by decide)
          simp only [List.getElem_cons_zero, List.getElem_cons_succ] at c
          go_wp2_with fail
          go_at_call 19
          refine (P4.out _ (BW.trans (hB.mono BW.size))).mono ?_
          rintro e wn ⟨rfl, h⟩
          have hB := hB.trans (h.mono hB.size)
          clear h
          clear c
          have hB := hB.alloc hB.size (.cells #[.string ⟨#[]⟩, .int .u8 0, .int .i64 0, .string ⟨#[]⟩, .string ⟨#[]⟩] 37)
          go_wp2_with fail
          go_at_call 17
          refine (N4.out _ (BW.trans (hB.mono BW.size))).mono ?_
          rintro e wn ⟨rfl, h⟩
          have hB := hB.trans (h.mono hB.size)
          clear h
          go_wp2_with fail
          go_at_call 20
          refine (F4.out _ (BW.trans (hB.mono BW.size))).mono ?_
          rintro e wn ⟨rfl, h⟩
          have hB := hB.trans (h.mono hB.size)
          clear h
          go_wp2_with fail
          rw [rounds_succ]
          have c := HC.out _ hB 5 (by decide)
          simp only [List.getElem_cons_zero, List.getElem_cons_succ] at c
          go_wp2_with fail
          go_at_call 19
          refine (P5.out _ (BW.trans (hB.mono BW.size))).mono ?_
          rintro e wn ⟨rfl, h⟩
          have hB := hB.trans (h.mono hB.size)
          clear h
          clear c
          have hB := hB.alloc hB.size (.cells #[.string ⟨#[]⟩, .int .u8 0, .int .i64 0, .string ⟨#[]⟩, .string ⟨#[]⟩] 37)
          go_wp2_with fail
          go_at_call 17
          refine (N5.out _ (BW.trans (hB.mono BW.size))).mono ?_
          rintro e wn ⟨rfl, h⟩
          have hB := hB.trans (h.mono hB.size)
          clear h
          go_wp2_with fail
          go_at_call 20
          refine (F5.out _ (BW.trans (hB.mono BW.size))).mono ?_
          rintro e wn ⟨rfl, h⟩
          have hB := hB.trans (h.mono hB.size)
          clear h
          go_wp2_with fail
          rw [rounds_succ]
          have c := HC.out _ hB 6 (by decide)
          simp only [List.getElem_cons_zero, List.getElem_cons_succ] at c
          go_wp2_with fail
          go_at_call 19
          refine (P6.out _ (BW.trans (hB.mono BW.size))).mono ?_
          rintro e wn ⟨rfl, h⟩
          have hB := hB.trans (h.mono hB.size)
          clear h
          clear c
          have hB := hB.alloc hB.size (.cells #[.string ⟨#[]⟩, .int .u8 0, .int .i64 0, .string ⟨#[]⟩, .string ⟨#[]⟩] 37)
          go_wp2_with fail
          go_at_call 17
          refine (N6.out _ (BW.trans (hB.mono BW.size))).mono ?_
          rintro e wn ⟨rfl, h⟩
          have hB := hB.trans (h.mono hB.size)
          clear h
          go_wp2_with fail
          go_at_call 20
          refine (F6.out _ (BW.trans (hB.mono BW.size))).mono ?_
          rintro e wn ⟨rfl, h⟩
          have hB := hB.trans (h.mono hB.size)
          clear h
          go_wp2_with fail
          rw [rounds_succ]
          have c := HC.out _ hB 7 (by decide)
          simp only [List.getElem_cons_zero, List.getElem_cons_succ] at c
          go_wp2_with fail
          go_at_call 19
          refine (P7.out _ (BW.trans (hB.mono BW.size))).mono ?_
          rintro e wn ⟨rfl, h⟩
          have hB := hB.trans (h.mono hB.size)
          clear h
          clear c
          have hB := hB.alloc hB.size (.cells #[.string ⟨#[]⟩, .int .u8 0, .int .i64 0, .string ⟨#[]⟩, .string ⟨#[]⟩] 37)
          go_wp2_with fail
          go_at_call 17
          refine (N7.out _ (BW.trans (hB.mono BW.size))).mono ?_
          rintro e wn ⟨rfl, h⟩
          have hB := hB.trans (h.mono hB.size)
          clear h
          go_wp2_with fail
          go_at_call 20
          refine (F7.out _ (BW.trans (hB.mono BW.size))).mono ?_
          rintro e wn ⟨rfl, h⟩
          have hB := hB.trans (h.mono hB.size)
          clear h
          go_wp2_with fail
          rw [rounds_succ]
          have c := HC.out _ hB 8 (by decide)
          simp only [List.getElem_cons_zero, List.getElem_cons_succ] at c
          go_wp2_with fail
          go_at_call 19
          refine (P8.out _ (BW.trans (hB.mono BW.size))).mono ?_
          rintro e wn ⟨rfl, h⟩
          have hB := hB.trans (h.mono hB.size)
          clear h
          clear c
          have hB := hB.alloc hB.size (.cells #[.string ⟨#[]⟩, .int .u8 0, .int .i64 0, .string ⟨#[]⟩, .string ⟨#[]⟩] 37)
          go_wp2_with fail
          go_at_call 17
          refine (N8.out _ (BW.trans (hB.mono BW.size))).mono ?_
          rintro e wn ⟨rfl, h⟩
          have hB := hB.trans (h.mono hB.size)
          clear h
          go_wp2_with fail
          go_at_call 20
          refine (F8.out _ (BW.trans (hB.mono BW.size))).mono ?_
          rintro e wn ⟨rfl, h⟩
          have hB := hB.trans (h.mono hB.size)
          clear h
          go_wp2_with fail
          rw [rounds_succ]
          have c := HC.out _ hB 9 (by decide)
          simp only [List.getElem_cons_zero, List.getElem_cons_succ] at c
          go_wp2_with fail
          go_at_call 19
          refine (P9.out _ (BW.trans (hB.mono BW.size))).mono ?_
          rintro e wn ⟨rfl, h⟩
          have hB := hB.trans (h.mono hB.size)
          clear h
          clear c
          have hB := hB.alloc hB.size (.cells #[.string ⟨#[]⟩, .int .u8 0, .int .i64 0, .string ⟨#[]⟩, .string ⟨#[]⟩] 37)
          go_wp2_with fail
          go_at_call 17
          refine (N9.out _ (BW.trans (hB.mono BW.size))).mono ?_
          rintro e wn ⟨rfl, h⟩
          have hB := hB.trans (h.mono hB.size)
          clear h
          go_wp2_with fail
          go_at_call 20
          refine (F9.out _ (BW.trans (hB.mono BW.size))).mono ?_
          rintro e wn ⟨rfl, h⟩
          have hB := hB.trans (h.mono hB.size)
          clear h
          go_wp2_with fail
          rw [rounds_succ]
          have c := HC.out _ hB 10 (by decide)
          simp only [List.getElem_cons_zero, List.getElem_cons_succ] at c
          go_wp2_with fail
          go_at_call 19
          refine (P10.out _ (BW.trans (hB.mono BW.size))).mono ?_
          rintro e wn ⟨rfl, h⟩
          have hB := hB.trans (h.mono hB.size)
          clear h
          clear c
          have hB := hB.alloc hB.size (.cells #[.string ⟨#[]⟩, .int .u8 0, .int .i64 0, .string ⟨#[]⟩, .string ⟨#[]⟩] 37)
          go_wp2_with fail
          go_at_call 17
          refine (N10.out _ (BW.trans (hB.mono BW.size))).mono ?_
          rintro e wn ⟨rfl, h⟩
          have hB := hB.trans (h.mono hB.size)
          clear h
          go_wp2_with fail
          go_at_call 20
          refine (F10.out _ (BW.trans (hB.mono BW.size))).mono ?_
          rintro e wn ⟨rfl, h⟩
          have hB := hB.trans (h.mono hB.size)
          clear h
          go_wp2_with fail
          rw [rounds_succ]
          have c := HC.out _ hB 11 (by decide)
          simp only [List.getElem_cons_zero, List.getElem_cons_succ] at c
          go_wp2_with fail
          go_at_call 19
          refine (P11.out _ (BW.trans (hB.mono BW.size))).mono ?_
          rintro e wn ⟨rfl, h⟩
          have hB := hB.trans (h.mono hB.size)
          clear h
          clear c
          have hB := hB.alloc hB.size (.cells #[.string ⟨#[]⟩, .int .u8 0, .int .i64 0, .string ⟨#[]⟩, .string ⟨#[]⟩] 37)
          go_wp2_with fail
          go_at_call 17
          refine (N11.out _ (BW.trans (hB.mono BW.size))).mono ?_
          rintro e wn ⟨rfl, h⟩
          have hB := hB.trans (h.mono hB.size)
          clear h
          go_wp2_with fail
          go_at_call 20
          refine (F11.out _ (BW.trans (hB.mono BW.size))).mono ?_
          rintro e wn ⟨rfl, h⟩
          have hB := hB.trans (h.mono hB.size)
          clear h
          go_wp2_with fail
          rw [rounds_succ]
          have c := HC.out _ hB 12 (by decide)
          simp only [List.getElem_cons_zero, List.getElem_cons_succ] at c
          go_wp2_with fail
          go_at_call 19
          refine (P12.out _ (BW.trans (hB.mono BW.size))).mono ?_
          rintro e wn ⟨rfl, h⟩
          have hB := hB.trans (h.mono hB.size)
          clear h
          clear c
          have hB := hB.alloc hB.size (.cells #[.string ⟨#[]⟩, .int .u8 0, .int .i64 0, .string ⟨#[]⟩, .string ⟨#[]⟩] 37)
          go_wp2_with fail
          go_at_call 17
          refine (N12.out _ (BW.trans (hB.mono BW.size))).mono ?_
          rintro e wn ⟨rfl, h⟩
          have hB := hB.trans (h.mono hB.size)
          clear h
          go_wp2_with fail
          go_at_call 20
          refine (F12.out _ (BW.trans (hB.mono BW.size))).mono ?_
          rintro e wn ⟨rfl, h⟩
          have hB := hB.trans (h.mono hB.size)
          clear h
          go_wp2_with fail
          rw [rounds_succ]
          have c := HC.out _ hB 13 (by decide)
          simp only [List.getElem_cons_zero, List.getElem_cons_succ] at c
          go_wp2_with fail
          go_at_call 19
          refine (P13.out _ (BW.trans (hB.mono BW.size))).mono ?_
          rintro e wn ⟨rfl, h⟩
          have hB := hB.trans (h.mono hB.size)
          clear h
          clear c
          have hB := hB.alloc hB.size (.cells #[.string ⟨#[]⟩, .int .u8 0, .int .i64 0, .string ⟨#[]⟩, .string ⟨#[]⟩] 37)
          go_wp2_with fail
          go_at_call 17
          refine (N13.out _ (BW.trans (hB.mono BW.size))).mono ?_
          rintro e wn ⟨rfl, h⟩
          have hB := hB.trans (h.mono hB.size)
          clear h
          go_wp2_with fail
          go_at_call 20
          refine (F13.out _ (BW.trans (hB.mono BW.size))).mono ?_
          rintro e wn ⟨rfl, h⟩
          have hB := hB.trans (h.mono hB.size)
          clear h
          go_wp2_with fail
          have hMT : M.toList = (97 :: List.replicate 63 45) := by rw [← HM.out]; unfold mst; rw [bs_toList]
          have hM2 : M.size ≤ 100 := by omega
          have q47 : (M.toList == [47]) = false := by rw [hMT]; decide +kernel
          have q48 : ¬ M.toList = [47] := by rw [hMT]; decide +kernel
          have G0 := Lib.hid (fun W (h : Below w.heap.size w W) => parse_one M (97 :: List.replicate 63 45) W (hI.below h) hM2 (by rw [hMT]) (by decide +kernel) (by decide +kernel))
          have U0 := Lib.hid (fun W (h : Below w.heap.size w W) => name_is M true W (hI.below h) hM2 (by rw [hMT]; decide +kernel))
          have X0 := Lib.hid (fun W (h : Below w.heap.size w W) => file_is M false W (hI.below h) hM2 (by rw [hMT]; decide +kernel))
          have G1 := Lib.hid (fun W (h : Below w.heap.size w W) => parse_one ⟨#[65, 110, 100]⟩ [65, 110, 100] W (hI.below h) (by decide) (by rw [show (⟨#[65, 110, 100]⟩ : ByteArray).toList = [65, 110, 100] from bs_toList _]) (by decide +kernel) (by decide +kernel))
          have U1 := Lib.hid (fun W (h : Below w.heap.size w W) => name_is ⟨#[65, 110, 100]⟩ true W (hI.below h) (by decide) (by rw [show (⟨#[65, 110, 100]⟩ : ByteArray).toList = [65, 110, 100] from bs_toList _]; decide +kernel))
          have X1 := Lib.hid (fun W (h : Below w.heap.size w W) => file_is ⟨#[65, 110, 100]⟩ false W (hI.below h) (by decide) (by rw [show (⟨#[65, 110, 100]⟩ : ByteArray).toList = [65, 110, 100] from bs_toList _]; decide +kernel))
          have G2 := Lib.hid (fun W (h : Below w.heap.size w W) => parse_one ⟨#[105, 102, 115]⟩ [105, 102, 115] W (hI.below h) (by decide) (by rw [show (⟨#[105, 102, 115]⟩ : ByteArray).toList = [105, 102, 115] from bs_toList _]) (by decide +kernel) (by decide +kernel))
          have U2 := Lib.hid (fun W (h : Below w.heap.size w W) => name_is ⟨#[105, 102, 115]⟩ true W (hI.below h) (by decide) (by rw [show (⟨#[105, 102, 115]⟩ : ByteArray).toList = [105, 102, 115] from bs_toList _]; decide +kernel))
          have X2 := Lib.hid (fun W (h : Below w.heap.size w W) => file_is ⟨#[105, 102, 115]⟩ false W (hI.below h) (by decide) (by rw [show (⟨#[105, 102, 115]⟩ : ByteArray).toList = [105, 102, 115] from bs_toList _]; decide +kernel))
          have G3 := Lib.hid (fun W (h : Below w.heap.size w W) => parse_one ⟨#[47]⟩ [47] W (hI.below h) (by decide) (by rw [show (⟨#[47]⟩ : ByteArray).toList = [47] from bs_toList _]) (by decide +kernel) (by decide +kernel))
          have U3 := Lib.hid (fun W (h : Below w.heap.size w W) => name_is ⟨#[47]⟩ true W (hI.below h) (by decide) (by rw [show (⟨#[47]⟩ : ByteArray).toList = [47] from bs_toList _]; decide +kernel))
          have X3 := Lib.hid (fun W (h : Below w.heap.size w W) => file_is ⟨#[47]⟩ true W (hI.below h) (by decide) (by rw [show (⟨#[47]⟩ : ByteArray).toList = [47] from bs_toList _]; decide +kernel))
          have G4 := Lib.hid (fun W (h : Below w.heap.size w W) => parse_one ⟨#[48]⟩ [48] W (hI.below h) (by decide) (by rw [show (⟨#[48]⟩ : ByteArray).toList = [48] from bs_toList _]) (by decide +kernel) (by decide +kernel))
          have U4 := Lib.hid (fun W (h : Below w.heap.size w W) => name_is ⟨#[48]⟩ true W (hI.below h) (by decide) (by rw [show (⟨#[48]⟩ : ByteArray).toList = [48] from bs_toList _]; decide +kernel))
          have X4 := Lib.hid (fun W (h : Below w.heap.size w W) => file_is ⟨#[48]⟩ false W (hI.below h) (by decide) (by rw [show (⟨#[48]⟩ : ByteArray).toList = [48] from bs_toList _]; decide +kernel))
          have G5 := Lib.hid (fun W (h : Below w.heap.size w W) => parse_one ⟨#[45]⟩ [45] W (hI.below h) (by decide) (by rw [show (⟨#[45]⟩ : ByteArray).toList = [45] from bs_toList _]) (by decide +kernel) (by decide +kernel))
          have U5 := Lib.hid (fun W (h : Below w.heap.size w W) => name_is ⟨#[45]⟩ true W (hI.below h) (by decide) (by rw [show (⟨#[45]⟩ : ByteArray).toList = [45] from bs_toList _]; decide +kernel))
          have X5 := Lib.hid (fun W (h : Below w.heap.size w W) => file_is ⟨#[45]⟩ false W (hI.below h) (by decide) (by rw [show (⟨#[45]⟩ : ByteArray).toList = [45] from bs_toList _]; decide +kernel))
          have G6 := Lib.hid (fun W (h : Below w.heap.size w W) => parse_one ⟨#[108, 105, 98, 46, 115, 111, 58, 50, 64, 120, 56, 54, 126, 94]⟩ [108, 105, 98, 46, 115, 111, 58, 50, 64, 120, 56, 54, 126, 94] W (hI.below h) (by decide) (by rw [show (⟨#[108, 105, 98, 46, 115, 111, 58, 50, 64, 120, 56, 54, 126, 94]⟩ : ByteArray).toList = [108, 105, 98, 46, 115, 111, 58, 50, 64, 120, 56, 54, 126, 94] from bs_toList _]) (by decide +kernel) (by decide +kernel))
          have U6 := Lib.hid (fun W (h : Below w.heap.size w W) => name_is ⟨#[108, 105, 98, 46, 115, 111, 58, 50, 64, 120, 56, 54, 126, 94]⟩ true W (hI.below h) (by decide) (by rw [show (⟨#[108, 105, 98, 46, 115, 111, 58, 50, 64, 120, 56, 54, 126, 94]⟩ : ByteArray).toList = [108, 105, 98, 46, 115, 111, 58, 50, 64, 120, 56, 54, 126, 94] from bs_toList _]; decide +kernel))
          have X6 := Lib.hid (fun W (h : Below w.heap.size w W) => file_is ⟨#[108, 105, 98, 46, 115, 111, 58, 50, 64, 120, 56, 54, 126, 94]⟩ false W (hI.below h) (by decide) (by rw [show (⟨#[108, 105, 98, 46, 115, 111, 58, 50, 64, 120, 56, 54, 126, 94]⟩ : ByteArray).toList = [108, 105, 98, 46, 115, 111, 58, 50, 64, 120, 56, 54, 126, 94] from bs_toList _]; decide +kernel))
          clear hMT hM2 HM HC
          rw [rounds_succ]
          have hB := BW.trans (hB.mono BW.size)
          clear BW
          go_wp2_with fail
          obtain ⟨wz, hwz⟩ : ∃ wz, wz = wn := ⟨_, rfl⟩
          rw [← hwz] at hB ⊢
          clear hwz
          have HC := Lib.hid (fun W' (h : Below (wz.alloc (.cells #[.string M, .string ⟨#[65, 110, 100]⟩, .string ⟨#[105, 102, 115]⟩, .string ⟨#[47]⟩, .string ⟨#[48]⟩, .string ⟨#[45]⟩, .string ⟨#[108, 105, 98, 46, 115, 111, 58, 50, 64, 120, 56, 54, 126, 94]⟩] 9)).heap.size (wz.alloc (.cells #[.string M, .string ⟨#[65, 110, 100]⟩, .string ⟨#[105, 102, 115]⟩, .string ⟨#[47]⟩, .string ⟨#[48]⟩, .string ⟨#[45]⟩, .string ⟨#[108, 105, 98, 46, 115, 111, 58, 50, 64, 120, 56, 54, 126, 94]⟩] 9)) W') (k : Nat) (hk : k < 7) => row_cells wz [M, ⟨#[65, 110, 100]⟩, ⟨#[105, 102, 115]⟩, ⟨#[47]⟩, ⟨#[48]⟩, ⟨#[45]⟩, ⟨#[108, 105, 98, 46, 115, 111, 58, 50, 64, 120, 56, 54, 126, 94]⟩] 9 #[.string M, .string ⟨#[65, 110, 100]⟩, .string ⟨#[105, 102, 115]⟩, .string ⟨#[47]⟩, .string ⟨#[48]⟩, .string ⟨#[45]⟩, .string ⟨#[108, 105, 98, 46, 115, 111, 58, 50, 64, 120, 56, 54, 126, 94]⟩] rfl W' h k hk)
          have BW := hB.alloc hB.size (.cells #[.string M, .string ⟨#[65, 110, 100]⟩, .string ⟨#[105, 102, 115]⟩, .string ⟨#[47]⟩, .string ⟨#[48]⟩, .string ⟨#[45]⟩, .string ⟨#[108, 105, 98, 46, 115, 111, 58, 50, 64, 120, 56, 54, 126, 94]⟩] 9)
          generalize wz.alloc (.cells #[.string M, .string ⟨#[65, 110, 100]⟩, .string ⟨#[105, 102, 115]⟩, .string ⟨#[47]⟩, .string ⟨#[48]⟩, .string ⟨#[45]⟩, .string ⟨#[108, 105, 98, 46, 115, 111, 58, 50, 64, 120, 56, 54, 126, 94]⟩] 9) = V4 at *
          generalize wz.heap.size = g4 at *
          clear hB
          have hB := Below.refl V4.heap.size V4
          refine wp_loop_rounds 8 ?_
          rw [rounds_succ]
          have c := HC.out _ hB 0 (by decide)
          simp only [List.getElem_cons_zero] at c
          go_wp2_with fail
          go_at_call 19
          refine (G0.out _ (BW.trans (hB.mono BW.size))).mono ?_
          rintro e wp0 ⟨rfl, h⟩
          have hB := hB.trans (h.mono hB.size)
          clear h c
          have hB := hB.alloc hB.size (.cells #[.string M, .int .u8 0, .int .i64 0, .string ⟨#[]⟩, .string ⟨#[]⟩] 37)
          go_wp2_with fail
          go_at_call 17
          refine (U0.out _ (BW.trans (hB.mono BW.size))).mono ?_
          rintro e wq0 ⟨rfl, h⟩
          have b0 : wq0.cell? ⟨wp0.heap.size, 0, none⟩ = some (.string M) := cell_after h ((World.cell?_alloc_at _ _ _ _ rfl).trans rfl) (by simp)
          have b1 : wq0.cell? ⟨wp0.heap.size, 1, none⟩ = some (.int .u8 0) := cell_after h ((World.cell?_alloc_at _ _ _ _ rfl).trans rfl) (by simp)
          have b2 : wq0.cell? ⟨wp0.heap.size, 2, none⟩ = some (.int .i64 0) := cell_after h ((World.cell?_alloc_at _ _ _ _ rfl).trans rfl) (by simp)
          have b3 : wq0.cell? ⟨wp0.heap.size, 3, none⟩ = some (.string ⟨#[]⟩) := cell_after h ((World.cell?_alloc_at _ _ _ _ rfl).trans rfl) (by simp)
          have b4 : wq0.cell? ⟨wp0.heap.size, 4, none⟩ = some (.string ⟨#[]⟩) := cell_after h ((World.cell?_alloc_at _ _ _ _ rfl).trans rfl) (by simp)
          have hB := hB.trans (h.mono hB.size)
          clear h
          go_wp2_with fail
          go_at_call 20
          refine (X0.out _ (BW.trans (hB.mono BW.size))).mono ?_
          rintro e wn ⟨rfl, h⟩
          have hB := hB.trans (h.mono hB.size)
          clear h
          clear b0 b1 b2 b3 b4
          go_wp2_with fail
          rw [rounds_succ]
          have c := HC.out _ hB 1 (by decide)
          simp only [List.getElem_cons_zero, List.getElem_cons_succ] at c
          go_wp2_with fail
          go_at_call 19
          refine (G1.out _ (BW.trans (hB.mono BW.size))).mono ?_
          rintro e wp1 ⟨rfl, h⟩
          have hB := hB.trans (h.mono hB.size)
          clear h c
          have hB := hB.alloc hB.size (.cells #[.string ⟨#[65, 110, 100]⟩, .int .u8 0, .int .i64 0, .string ⟨#[]⟩, .string ⟨#[]⟩] 37)
          go_wp2_with fail
          go_at_call 17
          refine (U1.out _ (BW.trans (hB.mono BW.size))).mono ?_
          rintro e wq1 ⟨rfl, h⟩
          have b0 : wq1.cell? ⟨wp1.heap.size, 0, none⟩ = some (.string ⟨#[65, 110, 100]⟩) := cell_after h ((World.cell?_alloc_at _ _ _ _ rfl).trans rfl) (by simp)
          have b1 : wq1.cell? ⟨wp1.heap.size, 1, none⟩ = some (.int .u8 0) := cell_after h ((World.cell?_alloc_at _ _ _ _ rfl).trans rfl) (by simp)
          have b2 : wq1.cell? ⟨wp1.heap.size, 2, none⟩ = some (.int .i64 0) := cell_after h ((World.cell?_alloc_at _ _ _ _ rfl).trans rfl) (by simp)
          have b3 : wq1.cell? ⟨wp1.heap.size, 3, none⟩ = some (.string ⟨#[]⟩) := cell_after h ((World.cell?_alloc_at _ _ _ _ rfl).trans rfl) (by simp)
          have b4 : wq1.cell? ⟨wp1.heap.size, 4, none⟩ = some (.string ⟨#[]⟩) := cell_after h ((World.cell?_alloc_at _ _ _ _ rfl).trans rfl) (by simp)
          have hB := hB.trans (h.mono hB.size)
          clear h
          go_wp2_with fail
          go_at_call 20
          refine (X1.out _ (BW.trans (hB.mono BW.size))).mono ?_
          rintro e wn ⟨rfl, h⟩
          have hB := hB.trans (h.mono hB.size)
          clear h
          clear b0 b1 b2 b3 b4
          go_wp2_with fail
          rw [rounds_succ]
          have c := HC.out _ hB 2 (by decide)
          simp only [List.getElem_cons_zero, List.getElem_cons_succ] at c
          go_wp2_with fail
          go_at_call 19
          refine (G2.out _ (BW.trans (hB.mono BW.size))).mono ?_
          rintro e wp2 ⟨rfl, h⟩
          have hB := hB.trans (h.mono hB.size)
          clear h c
          have hB := hB.alloc hB.size (.cells #[.string ⟨#[105, 102, 115]⟩, .int .u8 0, .int .i64 0, .string ⟨#[]⟩, .string ⟨#[]⟩] 37)
          go_wp2_with fail
          go_at_call 17
          refine (U2.out _ (BW.trans (hB.mono BW.size))).mono ?_
          rintro e wq2 ⟨rfl, h⟩
          have b0 : wq2.cell? ⟨wp2.heap.size, 0, none⟩ = some (.string ⟨#[105, 102, 115]⟩) := cell_after h ((World.cell?_alloc_at _ _ _ _ rfl).trans rfl) (by simp)
          have b1 : wq2.cell? ⟨wp2.heap.size, 1, none⟩ = some (.int .u8 0) := cell_after h ((World.cell?_alloc_at _ _ _ _ rfl).trans rfl) (by simp)
          have b2 : wq2.cell? ⟨wp2.heap.size, 2, none⟩ = some (.int .i64 0) := cell_after h ((World.cell?_alloc_at _ _ _ _ rfl).trans rfl) (by simp)
          have b3 : wq2.cell? ⟨wp2.heap.size, 3, none⟩ = some (.string ⟨#[]⟩) := cell_after h ((World.cell?_alloc_at _ _ _ _ rfl).trans rfl) (by simp)
          have b4 : wq2.cell? ⟨wp2.heap.size, 4, none⟩ = some (.string ⟨#[]⟩) := cell_after h ((World.cell?_alloc_at _ _ _ _ rfl).trans rfl) (by simp)
          have hB := hB.trans (h.mono hB.size)
          clear h
          go_wp2_with fail
          go_at_call 20
          refine (X2.out _ (BW.trans (hB.mono BW.size))).mono ?_
          rintro e wn ⟨rfl, h⟩
          have hB := hB.trans (h.mono hB.size)
          clear h
          clear b0 b1 b2 b3 b4
          go_wp2_with fail
          rw [rounds_succ]
          have c := HC.out _ hB 3 (by decide)
          simp only [List.getElem_cons_zero, List.getElem_cons_succ] at c
          go_wp2_with fail
          go_at_call 19
          refine (G3.out _ (BW.trans (hB.mono BW.size))).mono ?_
          rintro e wp3 ⟨rfl, h⟩
          have hB := hB.trans (h.mono hB.size)
          clear h c
          have hB := hB.alloc hB.size (.cells #[.string ⟨#[47]⟩, .int .u8 0, .int .i64 0, .string ⟨#[]⟩, .string ⟨#[]⟩] 37)
          go_wp2_with fail
          go_at_call 17
          refine (U3.out _ (BW.trans (hB.mono BW.size))).mono ?_
          rintro e wq3 ⟨rfl, h⟩
          have b0 : wq3.cell? ⟨wp3.heap.size, 0, none⟩ = some (.string ⟨#[47]⟩) := cell_after h ((World.cell?_alloc_at _ _ _ _ rfl).trans rfl) (by simp)
          have b1 : wq3.cell? ⟨wp3.heap.size, 1, none⟩ = some (.int .u8 0) := cell_after h ((World.cell?_alloc_at _ _ _ _ rfl).trans rfl) (by simp)
          have b2 : wq3.cell? ⟨wp3.heap.size, 2, none⟩ = some (.int .i64 0) := cell_after h ((World.cell?_alloc_at _ _ _ _ rfl).trans rfl) (by simp)
          have b3 : wq3.cell? ⟨wp3.heap.size, 3, none⟩ = some (.string ⟨#[]⟩) := cell_after h ((World.cell?_alloc_at _ _ _ _ rfl).trans rfl) (by simp)
          have b4 : wq3.cell? ⟨wp3.heap.size, 4, none⟩ = some (.string ⟨#[]⟩) := cell_after h ((World.cell?_alloc_at _ _ _ _ rfl).trans rfl) (by simp)
          have hB := hB.trans (h.mono hB.size)
          clear h
          go_wp2_with fail
          go_at_call 20
          refine (X3.out _ (BW.trans (hB.mono BW.size))).mono ?_
          rintro e wn ⟨rfl, h⟩
          have hB := hB.trans (h.mono hB.size)
          clear h
          clear b0 b1 b2 b3 b4
          go_wp2_with fail
          rw [rounds_succ]
          have c := HC.out _ hB 4 (by decide)
          simp only [List.getElem_cons_zero, List.getElem_cons_succ] at c
          go_wp2_with fail
          go_at_call 19
          refine (G4.out _ (BW.trans (hB.mono BW.size))).mono ?_
          rintro e wp4 ⟨rfl, h⟩
          have hB := hB.trans (h.mono hB.size)
          clear h c
          have hB := hB.alloc hB.size (.cells #[.string ⟨#[48]⟩, .int .u8 0, .int .i64 0, .string ⟨#[]⟩, .string ⟨#[]⟩] 37)
          go_wp2_with fail
          go_at_call 17
          refine (U4.out _ (BW.trans (hB.mono BW.size))).mono ?_
          rintro e wq4 ⟨rfl, h⟩
          have b0 : wq4.cell? ⟨wp4.heap.size, 0, none⟩ = some (.string ⟨#[48]⟩) := cell_after h ((World.cell?_alloc_at _ _ _ _ rfl).trans rfl) (by simp)
          have b1 : wq4.cell? ⟨wp4.heap.size, 1, none⟩ = some (.int .u8 0) := cell_after h ((World.cell?_alloc_at _ _ _ _ rfl).trans rfl) (by simp)
          have b2 : wq4.cell? ⟨wp4.heap.size, 2, none⟩ = some (.int .i64 0) := cell_after h ((World.cell?_alloc_at _ _ _ _ rfl).trans rfl) (by simp)
          have b3 : wq4.cell? ⟨wp4.heap.size, 3, none⟩ = some (.string ⟨#[]⟩) := cell_after h ((World.cell?_alloc_at _ _ _ _ rfl).trans rfl) (by simp)
          have b4 : wq4.cell? ⟨wp4.heap.size, 4, none⟩ = some (.string ⟨#[]⟩) := cell_after h ((World.cell?_alloc_at _ _ _ _ rfl).trans rfl) (by simp)
          have hB := hB.trans (h.mono hB.size)
          clear h
          go_wp2_with fail
          go_at_call 20
          refine (X4.out _ (BW.trans (hB.mono BW.size))).mono ?_
          rintro e wn ⟨rfl, h⟩
          have hB := hB.trans (h.mono hB.size)
          clear h
          clear b0 b1 b2 b3 b4
          go_wp2_with fail
          rw [rounds_succ]
          have c := HC.out _ hB 5 (by decide)
          simp only [List.getElem_cons_zero, List.getElem_cons_succ] at c
          go_wp2_with fail
          go_at_call 19
          refine (G5.out _ (BW.trans (hB.mono BW.size))).mono ?_
          rintro e wp5 ⟨rfl, h⟩
          have hB := hB.trans (h.mono hB.size)
          clear h c
          have hB := hB.alloc hB.size (.cells #[.string ⟨#[45]⟩, .int .u8 0, .int .i64 0, .string ⟨#[]⟩, .string ⟨#[]⟩] 37)
          go_wp2_with fail
          go_at_call 17
          refine (U5.out _ (BW.trans (hB.mono BW.size))).mono ?_
          rintro e wq5 ⟨rfl, h⟩
          have b0 : wq5.cell? ⟨wp5.heap.size, 0, none⟩ = some (.string ⟨#[45]⟩) := cell_after h ((World.cell?_alloc_at _ _ _ _ rfl).trans rfl) (by simp)
          have b1 : wq5.cell? ⟨wp5.heap.size, 1, none⟩ = some (.int .u8 0) := cell_after h ((World.cell?_alloc_at _ _ _ _ rfl).trans rfl) (by simp)
          have b2 : wq5.cell? ⟨wp5.heap.size, 2, none⟩ = some (.int .i64 0) := cell_after h ((World.cell?_alloc_at _ _ _ _ rfl).trans rfl) (by simp)
          have b3 : wq5.cell? ⟨wp5.heap.size, 3, none⟩ = some (.string ⟨#[]⟩) := cell_after h ((World.cell?_alloc_at _ _ _ _ rfl).trans rfl) (by simp)
          have b4 : wq5.cell? ⟨wp5.heap.size, 4, none⟩ = some (.string ⟨#[]⟩) := cell_after h ((World.cell?_alloc_at _ _ _ _ rfl).trans rfl) (by simp)
          have hB := hB.trans (h.mono hB.size)
          clear h
          go_wp2_with fail
          go_at_call 20
          refine (X5.out _ (BW.trans (hB.mono BW.size))).mono ?_
          rintro e wn ⟨rfl, h⟩
          have hB := hB.trans (h.mono hB.size)
          clear h
          clear b0 b1 b2 b3 b4
          go_wp2_with fail
          rw [rounds_succ]
          have c := HC.out _ hB 6 (by decide)
          simp only [List.getElem_cons_zero, List.getElem_cons_succ] at c
          go_wp2_with fail
          go_at_call 19
          refine (G6.out _ (BW.trans (hB.mono BW.size))).mono ?_
          rintro e wp6 ⟨rfl, h⟩
          have hB := hB.trans (h.mono hB.size)
          clear h c
          have hB := hB.alloc hB.size (.cells #[.string ⟨#[108, 105, 98, 46, 115, 111, 58, 50, 64, 120, 56, 54, 126, 94]⟩, .int .u8 0, .int .i64 0, .string ⟨#[]⟩, .string ⟨#[]⟩] 37)
          go_wp2_with fail
          go_at_call 17
          refine (U6.out _ (BW.trans (hB.mono BW.size))).mono ?_
          rintro e wq6 ⟨rfl, h⟩
          have b0 : wq6.cell? ⟨wp6.heap.size, 0, none⟩ = some (.string ⟨#[108, 105, 98, 46, 115, 111, 58, 50, 64, 120, 56, 54, 126, 94]⟩) := cell_after h ((World.cell?_alloc_at _ _ _ _ rfl).trans rfl) (by simp)
          have b1 : wq6.cell? ⟨wp6.heap.size, 1, none⟩ = some (.int .u8 0) := cell_after h ((World.cell?_alloc_at _ _ _ _ rfl).trans rfl) (by simp)
          have b2 : wq6.cell? ⟨wp6.heap.size, 2, none⟩ = some (.int .i64 0) := cell_after h ((World.cell?_alloc_at _ _ _ _ rfl).trans rfl) (by simp)
          have b3 : wq6.cell? ⟨wp6.heap.size, 3, none⟩ = some (.string ⟨#[]⟩) := cell_after h ((World.cell?_alloc_at _ _ _ _ rfl).trans rfl) (by simp)
          have b4 : wq6.cell? ⟨wp6.heap.size, 4, none⟩ = some (.string ⟨#[]⟩) := cell_after h ((World.cell?_alloc_at _ _ _ _ rfl).trans rfl) (by simp)
          have hB := hB.trans (h.mono hB.size)
          clear h
          go_wp2_with fail
          go_at_call 20
          refine (X6.out _ (BW.trans (hB.mono BW.size))).mono ?_
          rintro e wn ⟨rfl, h⟩
          have hB := hB.trans (h.mono hB.size)
          clear h
          clear b0 b1 b2 b3 b4
          go_wp2_with fail
          clear HC q47 q48
          rw [rounds_succ]
          have hB := BW.trans (hB.mono BW.size)
          clear BW
          go_wp2_with fail
          obtain ⟨wy, hwy⟩ : ∃ wy, wy = wn := ⟨_, rfl⟩
          rw [← hwy] at hB ⊢
          clear hwy
          have O0 := Lib.hid (fun W (h : Below w.heap.size w W) => parse_no ⟨#[97, 32, 61]⟩ W (hI.below h) (by decide) (by rw [show (⟨#[97, 32, 61]⟩ : ByteArray).toList = [97, 32, 61] from bs_toList _]; exact none_len (by decide +kernel) (by decide +kernel)))
          have O1 := Lib.hid (fun W (h : Below w.heap.size w W) => parse_no ⟨#[97, 32, 61, 32]⟩ W (hI.below h) (by decide) (by rw [show (⟨#[97, 32, 61, 32]⟩ : ByteArray).toList = [97, 32, 61, 32] from bs_toList _]; exact none_ev (n := [97]) (o := [61]) (v := []) (by decide +kernel) (none_may (e := ⟨0, [], []⟩) rfl (by decide +kernel))))
          have O2 := Lib.hid (fun W (h : Below w.heap.size w W) => parse_no ⟨#[97, 32, 61, 32, 49, 32]⟩ W (hI.below h) (by decide) (by rw [show (⟨#[97, 32, 61, 32, 49, 32]⟩ : ByteArray).toList = [97, 32, 61, 32, 49, 32] from bs_toList _]; exact none_len (by decide +kernel) (by decide +kernel)))
          have O3 := Lib.hid (fun W (h : Below w.heap.size w W) => parse_no ⟨#[32, 97, 32, 61, 32, 49]⟩ W (hI.below h) (by decide) (by rw [show (⟨#[32, 97, 32, 61, 32, 49]⟩ : ByteArray).toList = [32, 97, 32, 61, 32, 49] from bs_toList _]; exact none_len (by decide +kernel) (by decide +kernel)))
          have O4 := Lib.hid (fun W (h : Below w.heap.size w W) => parse_no ⟨#[97, 32, 61, 49]⟩ W (hI.below h) (by decide) (by rw [show (⟨#[97, 32, 61, 49]⟩ : ByteArray).toList = [97, 32, 61, 49] from bs_toList _]; exact none_len (by decide +kernel) (by decide +kernel)))
          have O5 := Lib.hid (fun W (h : Below w.heap.size w W) => parse_no ⟨#[97, 32, 60, 62, 32, 49]⟩ W (hI.below h) (by decide) (by rw [show (⟨#[97, 32, 60, 62, 32, 49]⟩ : ByteArray).toList = [97, 32, 60, 62, 32, 49] from bs_toList _]; exact none_op (n := [97]) (o := [60, 62]) (v := [49]) (by decide +kernel) (.inl (by decide))))
          have O6 := Lib.hid (fun W (h : Below w.heap.size w W) => parse_no ⟨#[97, 32, 61, 32, 49, 32, 49]⟩ W (hI.below h) (by decide) (by rw [show (⟨#[97, 32, 61, 32, 49, 32, 49]⟩ : ByteArray).toList = [97, 32, 61, 32, 49, 32, 49] from bs_toList _]; exact none_len (by decide +kernel) (by decide +kernel)))
          have O7 := Lib.hid (fun W (h : Below w.heap.size w W) => parse_no ⟨#[97, 32, 32, 49]⟩ W (hI.below h) (by decide) (by rw [show (⟨#[97, 32, 32, 49]⟩ : ByteArray).toList = [97, 32, 32, 49] from bs_toList _]; exact none_op (n := [97]) (o := []) (v := [49]) (by decide +kernel) (.inr (by decide))))
          have O8 := Lib.hid (fun W (h : Below w.heap.size w W) => parse_no ⟨#[47, 97, 32, 61, 32, 49]⟩ W (hI.below h) (by decide) (by rw [show (⟨#[47, 97, 32, 61, 32, 49]⟩ : ByteArray).toList = [47, 97, 32, 61, 32, 49] from bs_toList _]; exact none_dmay (n := [47, 97]) (o := [61]) (v := [49]) (by decide +kernel) ev_one (by decide +kernel)))
          have O9 := Lib.hid (fun W (h : Below w.heap.size w W) => parse_no ⟨#[97, 32, 61, 32, 49, 45]⟩ W (hI.below h) (by decide) (by rw [show (⟨#[97, 32, 61, 32, 49, 45]⟩ : ByteArray).toList = [97, 32, 61, 32, 49, 45] from bs_toList _]; exact none_ev (n := [97]) (o := [61]) (v := [49, 45]) (by decide +kernel) (none_show (e := ⟨0, [49], []⟩) rfl (by rw [show_zero]; decide))))
          have O10 := Lib.hid (fun W (h : Below w.heap.size w W) => parse_no ⟨#[97, 32, 61, 32, 58, 49]⟩ W (hI.below h) (by decide) (by rw [show (⟨#[97, 32, 61, 32, 58, 49]⟩ : ByteArray).toList = [97, 32, 61, 32, 58, 49] from bs_toList _]; exact none_ev (n := [97]) (o := [61]) (v := [58, 49]) (by decide +kernel) (none_pc rfl)))
          have O11 := Lib.hid (fun W (h : Below w.heap.size w W) => parse_no ⟨#[97, 110, 100, 32, 61, 32, 49]⟩ W (hI.below h) (by decide) (by rw [show (⟨#[97, 110, 100, 32, 61, 32, 49]⟩ : ByteArray).toList = [97, 110, 100, 32, 61, 32, 49] from bs_toList _]; exact none_dmay (n := [97, 110, 100]) (o := [61]) (v := [49]) (by decide +kernel) ev_one (by decide +kernel)))
          have HC := Lib.hid (fun W' (h : Below (wy.alloc (.cells #[.string ⟨#[97, 32, 61]⟩, .string ⟨#[97, 32, 61, 32]⟩, .string ⟨#[97, 32, 61, 32, 49, 32]⟩, .string ⟨#[32, 97, 32, 61, 32, 49]⟩, .string ⟨#[97, 32, 61, 49]⟩, .string ⟨#[97, 32, 60, 62, 32, 49]⟩, .string ⟨#[97, 32, 61, 32, 49, 32, 49]⟩, .string ⟨#[97, 32, 32, 49]⟩, .string ⟨#[47, 97, 32, 61, 32, 49]⟩, .string ⟨#[97, 32, 61, 32, 49, 45]⟩, .string ⟨#[97, 32, 61, 32, 58, 49]⟩, .string ⟨#[97, 110, 100, 32, 61, 32, 49]⟩] 9)).heap.size (wy.alloc (.cells #[.string ⟨#[97, 32, 61]⟩, .string ⟨#[97, 32, 61, 32]⟩, .string ⟨#[97, 32, 61, 32, 49, 32]⟩, .string ⟨#[32, 97, 32, 61, 32, 49]⟩, .string ⟨#[97, 32, 61, 49]⟩, .string ⟨#[97, 32, 60, 62, 32, 49]⟩, .string ⟨#[97, 32, 61, 32, 49, 32, 49]⟩, .string ⟨#[97, 32, 32, 49]⟩, .string ⟨#[47, 97, 32, 61, 32, 49]⟩, .string ⟨#[97, 32, 61, 32, 49, 45]⟩, .string ⟨#[97, 32, 61, 32, 58, 49]⟩, .string ⟨#[97, 110, 100, 32, 61, 32, 49]⟩] 9)) W') (k : Nat) (hk : k < 12) => row_cells wy [⟨#[97, 32, 61]⟩, ⟨#[97, 32, 61, 32]⟩, ⟨#[97, 32, 61, 32, 49, 32]⟩, ⟨#[32, 97, 32, 61, 32, 49]⟩, ⟨#[97, 32, 61, 49]⟩, ⟨#[97, 32, 60, 62, 32, 49]⟩, ⟨#[97, 32, 61, 32, 49, 32, 49]⟩, ⟨#[97, 32, 32, 49]⟩, ⟨#[47, 97, 32, 61, 32, 49]⟩, ⟨#[97, 32, 61, 32, 49, 45]⟩, ⟨#[97, 32, 61, 32, 58, 49]⟩, ⟨#[97, 110, 100, 32, 61, 32, 49]⟩] 9 #[.string ⟨#[97, 32, 61]⟩, .string ⟨#[97, 32, 61, 32]⟩, .string ⟨#[97, 32, 61, 32, 49, 32]⟩, .string ⟨#[32, 97, 32, 61, 32, 49]⟩, .string ⟨#[97, 32, 61, 49]⟩, .string ⟨#[97, 32, 60, 62, 32, 49]⟩, .string ⟨#[97, 32, 61, 32, 49, 32, 49]⟩, .string ⟨#[97, 32, 32, 49]⟩, .string ⟨#[47, 97, 32, 61, 32, 49]⟩, .string ⟨#[97, 32, 61, 32, 49, 45]⟩, .string ⟨#[97, 32, 61, 32, 58, 49]⟩, .string ⟨#[97, 110, 100, 32, 61, 32, 49]⟩] rfl W' h k hk)
          have BW := hB.alloc hB.size (.cells #[.string ⟨#[97, 32, 61]⟩, .string ⟨#[97, 32, 61, 32]⟩, .string ⟨#[97, 32, 61, 32, 49, 32]⟩, .string ⟨#[32, 97, 32, 61, 32, 49]⟩, .string ⟨#[97, 32, 61, 49]⟩, .string ⟨#[97, 32, 60, 62, 32, 49]⟩, .string ⟨#[97, 32, 61, 32, 49, 32, 49]⟩, .string ⟨#[97, 32, 32, 49]⟩, .string ⟨#[47, 97, 32, 61, 32, 49]⟩, .string ⟨#[97, 32, 61, 32, 49, 45]⟩, .string ⟨#[97, 32, 61, 32, 58, 49]⟩, .string ⟨#[97, 110, 100, 32, 61, 32, 49]⟩] 9)
          generalize wy.alloc (.cells #[.string ⟨#[97, 32, 61]⟩, .string ⟨#[97, 32, 61, 32]⟩, .string ⟨#[97, 32, 61, 32, 49, 32]⟩, .string ⟨#[32, 97, 32, 61, 32, 49]⟩, .string ⟨#[97, 32, 61, 49]⟩, .string ⟨#[97, 32, 60, 62, 32, 49]⟩, .string ⟨#[97, 32, 61, 32, 49, 32, 49]⟩, .string ⟨#[97, 32, 32, 49]⟩, .string ⟨#[47, 97, 32, 61, 32, 49]⟩, .string ⟨#[97, 32, 61, 32, 49, 45]⟩, .string ⟨#[97, 32, 61, 32, 58, 49]⟩, .string ⟨#[97, 110, 100, 32, 61, 32, 49]⟩] 9) = V5 at *
          generalize wy.heap.size = g5 at *
          clear hB
          have hB := Below.refl V5.heap.size V5
          refine wp_loop_rounds 13 ?_
          rw [rounds_succ]
          have c := HC.out _ hB 0 (by decide)
          simp only [List.getElem_cons_zero] at c
          go_wp2_with fail
          go_at_call 19
          refine (O0.out _ (BW.trans (hB.mono BW.size))).mono ?_
          rintro e wn ⟨rfl, h⟩
          have hB := hB.trans (h.mono hB.size)
          clear h
          clear c
          have hB := hB.alloc hB.size (.cells #[.string ⟨#[]⟩, .int .u8 0, .int .i64 0, .string ⟨#[]⟩, .string ⟨#[]⟩] 37)
          go_wp2_with fail
          rw [rounds_succ]
          have c := HC.out _ hB 1 (by decide)
          simp only [List.getElem_cons_zero, List.getElem_cons_succ] at c
          go_wp2_with fail
          go_at_call 19
          refine (O1.out _ (BW.trans (hB.mono BW.size))).mono ?_
          rintro e wn ⟨rfl, h⟩
          have hB := hB.trans (h.mono hB.size)
          clear h
          clear c
          have hB := hB.alloc hB.size (.cells #[.string ⟨#[]⟩, .int .u8 0, .int .i64 0, .string ⟨#[]⟩, .string ⟨#[]⟩] 37)
          go_wp2_with fail
          rw [rounds_succ]
          have c := HC.out _ hB 2 (by decide)
          simp only [List.getElem_cons_zero, List.getElem_cons_succ] at c
          go_wp2_with fail
          go_at_call 19
          refine (O2.out _ (BW.trans (hB.mono BW.size))).mono ?_
          rintro e wn ⟨rfl, h⟩
          have hB := hB.trans (h.mono hB.size)
          clear h
          clear c
          have hB := hB.alloc hB.size (.cells #[.string ⟨#[]⟩, .int .u8 0, .int .i64 0, .string ⟨#[]⟩, .string ⟨#[]⟩] 37)
          go_wp2_with fail
          rw [rounds_succ]
          have c := HC.out _ hB 3 (by decide)
          simp only [List.getElem_cons_zero, List.getElem_cons_succ] at c
          go_wp2_with fail
          go_at_call 19
          refine (O3.out _ (BW.trans (hB.mono BW.size))).mono ?_
          rintro e wn ⟨rfl, h⟩
          have hB := hB.trans (h.mono hB.size)
          clear h
          clear c
          have hB := hB.alloc hB.size (.cells #[.string ⟨#[]⟩, .int .u8 0, .int .i64 0, .string ⟨#[]⟩, .string ⟨#[]⟩] 37)
          go_wp2_with fail
          rw [rounds_succ]
          have c := HC.out _ hB 4 (by decide)
          simp only [List.getElem_cons_zero, List.getElem_cons_succ] at c
          go_wp2_with fail
          go_at_call 19
          refine (O4.out _ (BW.trans (hB.mono BW.size))).mono ?_
          rintro e wn ⟨rfl, h⟩
          have hB := hB.trans (h.mono hB.size)
          clear h
          clear c
          have hB := hB.alloc hB.size (.cells #[.string ⟨#[]⟩, .int .u8 0, .int .i64 0, .string ⟨#[]⟩, .string ⟨#[]⟩] 37)
          go_wp2_with fail
          rw [rounds_succ]
          have c := HC.out _ hB 5 (by decide)
          simp only [List.getElem_cons_zero, List.getElem_cons_succ] at c
          go_wp2_with fail
          go_at_call 19
          refine (O5.out _ (BW.trans (hB.mono BW.size))).mono ?_
          rintro e wn ⟨rfl, h⟩
          have hB := hB.trans (h.mono hB.size)
          clear h
          clear c
          have hB := hB.alloc hB.size (.cells #[.string ⟨#[]⟩, .int .u8 0, .int .i64 0, .string ⟨#[]⟩, .string ⟨#[]⟩] 37)
          go_wp2_with fail
          rw [rounds_succ]
          have c := HC.out _ hB 6 (by decide)
          simp only [List.getElem_cons_zero, List.getElem_cons_succ] at c
          go_wp2_with fail
          go_at_call 19
          refine (O6.out _ (BW.trans (hB.mono BW.size))).mono ?_
          rintro e wn ⟨rfl, h⟩
          have hB := hB.trans (h.mono hB.size)
          clear h
          clear c
          have hB := hB.alloc hB.size (.cells #[.string ⟨#[]⟩, .int .u8 0, .int .i64 0, .string ⟨#[]⟩, .string ⟨#[]⟩] 37)
          go_wp2_with fail
          rw [rounds_succ]
          have c := HC.out _ hB 7 (by decide)
          simp only [List.getElem_cons_zero, List.getElem_cons_succ] at c
          go_wp2_with fail
          go_at_call 19
          refine (O7.out _ (BW.trans (hB.mono BW.size))).mono ?_
          rintro e wn ⟨rfl, h⟩
          have hB := hB.trans (h.mono hB.size)
          clear h
          clear c
          have hB := hB.alloc hB.size (.cells #[.string ⟨#[]⟩, .int .u8 0, .int .i64 0, .string ⟨#[]⟩, .string ⟨#[]⟩] 37)
          go_wp2_with fail
          rw [rounds_succ]
          have c := HC.out _ hB 8 (by decide)
          simp only [List.getElem_cons_zero, List.getElem_cons_succ] at c
          go_wp2_with fail
          go_at_call 19
          refine (O8.out _ (BW.trans (hB.mono BW.size))).mono ?_
          rintro e wn ⟨rfl, h⟩
          have hB := hB.trans (h.mono hB.size)
          clear h
          clear c
          have hB := hB.alloc hB.size (.cells #[.string ⟨#[]⟩, .int .u8 0, .int .i64 0, .string ⟨#[]⟩, .string ⟨#[]⟩] 37)
          go_wp2_with fail
          rw [rounds_succ]
          have c := HC.out _ hB 9 (by decide)
          simp only [List.getElem_cons_zero, List.getElem_cons_succ] at c
          go_wp2_with fail
          go_at_call 19
          refine (O9.out _ (BW.trans (hB.mono BW.size))).mono ?_
          rintro e wn ⟨rfl, h⟩
          have hB := hB.trans (h.mono hB.size)
          clear h
          clear c
          have hB := hB.alloc hB.size (.cells #[.string ⟨#[]⟩, .int .u8 0, .int .i64 0, .string ⟨#[]⟩, .string ⟨#[]⟩] 37)
          go_wp2_with fail
          rw [rounds_succ]
          have c := HC.out _ hB 10 (by decide)
          simp only [List.getElem_cons_zero, List.getElem_cons_succ] at c
          go_wp2_with fail
          go_at_call 19
          refine (O10.out _ (BW.trans (hB.mono BW.size))).mono ?_
          rintro e wn ⟨rfl, h⟩
          have hB := hB.trans (h.mono hB.size)
          clear h
          clear c
          have hB := hB.alloc hB.size (.cells #[.string ⟨#[]⟩, .int .u8 0, .int .i64 0, .string ⟨#[]⟩, .string ⟨#[]⟩] 37)
          go_wp2_with fail
          rw [rounds_succ]
          have c := HC.out _ hB 11 (by decide)
          simp only [List.getElem_cons_zero, List.getElem_cons_succ] at c
          go_wp2_with fail
          go_at_call 19
          refine (O11.out _ (BW.trans (hB.mono BW.size))).mono ?_
          rintro e wn ⟨rfl, h⟩
          have hB := hB.trans (h.mono hB.size)
          clear h
          clear c
          have hB := hB.alloc hB.size (.cells #[.string ⟨#[]⟩, .int .u8 0, .int .i64 0, .string ⟨#[]⟩, .string ⟨#[]⟩] 37)
          go_wp2_with fail
          clear HC
          rw [rounds_succ]
          have hB := BW.trans (hB.mono BW.size)
          clear BW
          obtain ⟨wx, hwx⟩ : ∃ wx, wx = wn.alloc (.cells #[.string ⟨#[]⟩, .int .u8 0, .int .i64 0, .string ⟨#[]⟩, .string ⟨#[]⟩] 37) := ⟨_, rfl⟩
          rw [← hwx] at hB ⊢
          clear hwx
          go_wp2_with fail
          have S0 := Lib.hid (fun W (h : Below w.heap.size w W) => show_no ⟨[], 0, ⟨0, [], []⟩⟩ (.agg #[.string ⟨#[]⟩, .int .u8 0, .int .i64 0, .string ⟨#[]⟩, .string ⟨#[]⟩]) rfl W (hI.below h) ⟨by decide, by decide, by decide, by decide, by decide⟩ (by decide +kernel))
          have Y0 := Lib.hid (fun W (h : Below w.heap.size w W) => words_no2 ⟨[], 0, ⟨0, [], []⟩⟩ (.agg #[.string ⟨#[]⟩, .int .u8 0, .int .i64 0, .string ⟨#[]⟩, .string ⟨#[]⟩]) rfl W (hI.below h) ⟨by decide, by decide, by decide, by decide, by decide⟩ (by decide +kernel))
          have M0 := Lib.hid (fun W (h : Below w.heap.size w W) => may_is ⟨[], 0, ⟨0, [], []⟩⟩ (.agg #[.string ⟨#[]⟩, .int .u8 0, .int .i64 0, .string ⟨#[]⟩, .string ⟨#[]⟩]) false rfl W (hI.below h) ⟨by decide, by decide, by decide, by decide, by decide⟩ (by decide +kernel))
          have S1 := Lib.hid (fun W (h : Below w.heap.size w W) => show_no ⟨[97], 0, ⟨0, [49], []⟩⟩ (.agg #[.string ⟨#[97]⟩, .int .u8 0, .int .i64 0, .string ⟨#[49]⟩, .string ⟨#[]⟩]) rfl W (hI.below h) ⟨by decide, by decide, by decide, by decide, by decide⟩ (by decide +kernel))
          have Y1 := Lib.hid (fun W (h : Below w.heap.size w W) => words_no2 ⟨[97], 0, ⟨0, [49], []⟩⟩ (.agg #[.string ⟨#[97]⟩, .int .u8 0, .int .i64 0, .string ⟨#[49]⟩, .string ⟨#[]⟩]) rfl W (hI.below h) ⟨by decide, by decide, by decide, by decide, by decide⟩ (by decide +kernel))
          have M1 := Lib.hid (fun W (h : Below w.heap.size w W) => may_is ⟨[97], 0, ⟨0, [49], []⟩⟩ (.agg #[.string ⟨#[97]⟩, .int .u8 0, .int .i64 0, .string ⟨#[49]⟩, .string ⟨#[]⟩]) false rfl W (hI.below h) ⟨by decide, by decide, by decide, by decide, by decide⟩ (by decide +kernel))
          have S2 := Lib.hid (fun W (h : Below w.heap.size w W) => show_no ⟨[97], 5, ⟨0, [49], []⟩⟩ (.agg #[.string ⟨#[97]⟩, .int .u8 5, .int .i64 0, .string ⟨#[49]⟩, .string ⟨#[]⟩]) rfl W (hI.below h) ⟨by decide, by decide, by decide, by decide, by decide⟩ (by decide +kernel))
          have Y2 := Lib.hid (fun W (h : Below w.heap.size w W) => words_no2 ⟨[97], 5, ⟨0, [49], []⟩⟩ (.agg #[.string ⟨#[97]⟩, .int .u8 5, .int .i64 0, .string ⟨#[49]⟩, .string ⟨#[]⟩]) rfl W (hI.below h) ⟨by decide, by decide, by decide, by decide, by decide⟩ (by decide +kernel))
          have M2 := Lib.hid (fun W (h : Below w.heap.size w W) => may_is ⟨[97], 5, ⟨0, [49], []⟩⟩ (.agg #[.string ⟨#[97]⟩, .int .u8 5, .int .i64 0, .string ⟨#[49]⟩, .string ⟨#[]⟩]) false rfl W (hI.below h) ⟨by decide, by decide, by decide, by decide, by decide⟩ (by decide +kernel))
          have S3 := Lib.hid (fun W (h : Below w.heap.size w W) => show_no ⟨[97], 2, ⟨0, [], []⟩⟩ (.agg #[.string ⟨#[97]⟩, .int .u8 2, .int .i64 0, .string ⟨#[]⟩, .string ⟨#[]⟩]) rfl W (hI.below h) ⟨by decide, by decide, by decide, by decide, by decide⟩ (by decide +kernel))
          have Y3 := Lib.hid (fun W (h : Below w.heap.size w W) => words_no2 ⟨[97], 2, ⟨0, [], []⟩⟩ (.agg #[.string ⟨#[97]⟩, .int .u8 2, .int .i64 0, .string ⟨#[]⟩, .string ⟨#[]⟩]) rfl W (hI.below h) ⟨by decide, by decide, by decide, by decide, by decide⟩ (by decide +kernel))
          have M3 := Lib.hid (fun W (h : Below w.heap.size w W) => may_is ⟨[97], 2, ⟨0, [], []⟩⟩ (.agg #[.string ⟨#[97]⟩, .int .u8 2, .int .i64 0, .string ⟨#[]⟩, .string ⟨#[]⟩]) false rfl W (hI.below h) ⟨by decide, by decide, by decide, by decide, by decide⟩ (by decide +kernel))
          have S4 := Lib.hid (fun W (h : Below w.heap.size w W) => show_no ⟨[47, 97], 2, ⟨0, [49], []⟩⟩ (.agg #[.string ⟨#[47, 97]⟩, .int .u8 2, .int .i64 0, .string ⟨#[49]⟩, .string ⟨#[]⟩]) rfl W (hI.below h) ⟨by decide, by decide, by decide, by decide, by decide⟩ (by decide +kernel))
          have Y4 := Lib.hid (fun W (h : Below w.heap.size w W) => words_no2 ⟨[47, 97], 2, ⟨0, [49], []⟩⟩ (.agg #[.string ⟨#[47, 97]⟩, .int .u8 2, .int .i64 0, .string ⟨#[49]⟩, .string ⟨#[]⟩]) rfl W (hI.below h) ⟨by decide, by decide, by decide, by decide, by decide⟩ (by decide +kernel))
          have M4 := Lib.hid (fun W (h : Below w.heap.size w W) => may_is ⟨[47, 97], 2, ⟨0, [49], []⟩⟩ (.agg #[.string ⟨#[47, 97]⟩, .int .u8 2, .int .i64 0, .string ⟨#[49]⟩, .string ⟨#[]⟩]) false rfl W (hI.below h) ⟨by decide, by decide, by decide, by decide, by decide⟩ (by decide +kernel))
          have S5 := Lib.hid (fun W (h : Below w.heap.size w W) => show_no ⟨[111, 114], 0, ⟨0, [], []⟩⟩ (.agg #[.string ⟨#[111, 114]⟩, .int .u8 0, .int .i64 0, .string ⟨#[]⟩, .string ⟨#[]⟩]) rfl W (hI.below h) ⟨by decide, by decide, by decide, by decide, by decide⟩ (by decide +kernel))
          have Y5 := Lib.hid (fun W (h : Below w.heap.size w W) => words_no2 ⟨[111, 114], 0, ⟨0, [], []⟩⟩ (.agg #[.string ⟨#[111, 114]⟩, .int .u8 0, .int .i64 0, .string ⟨#[]⟩, .string ⟨#[]⟩]) rfl W (hI.below h) ⟨by decide, by decide, by decide, by decide, by decide⟩ (by decide +kernel))
          have M5 := Lib.hid (fun W (h : Below w.heap.size w W) => may_is ⟨[111, 114], 0, ⟨0, [], []⟩⟩ (.agg #[.string ⟨#[111, 114]⟩, .int .u8 0, .int .i64 0, .string ⟨#[]⟩, .string ⟨#[]⟩]) false rfl W (hI.below h) ⟨by decide, by decide, by decide, by decide, by decide⟩ (by decide +kernel))
          have S6 := Lib.hid (fun W (h : Below w.heap.size w W) => show_no ⟨[97], 2, ⟨-1, [49], []⟩⟩ (.agg #[.string ⟨#[97]⟩, .int .u8 2, .int .i64 (-1), .string ⟨#[49]⟩, .string ⟨#[]⟩]) rfl W (hI.below h) ⟨by decide, by decide, by decide, by decide, by decide⟩ (by decide +kernel))
          have Y6 := Lib.hid (fun W (h : Below w.heap.size w W) => words_no2 ⟨[97], 2, ⟨-1, [49], []⟩⟩ (.agg #[.string ⟨#[97]⟩, .int .u8 2, .int .i64 (-1), .string ⟨#[49]⟩, .string ⟨#[]⟩]) rfl W (hI.below h) ⟨by decide, by decide, by decide, by decide, by decide⟩ (by decide +kernel))
          have M6 := Lib.hid (fun W (h : Below w.heap.size w W) => may_is ⟨[97], 2, ⟨-1, [49], []⟩⟩ (.agg #[.string ⟨#[97]⟩, .int .u8 2, .int .i64 (-1), .string ⟨#[49]⟩, .string ⟨#[]⟩]) false rfl W (hI.below h) ⟨by decide, by decide, by decide, by decide, by decide⟩ (by decide +kernel))
          have S7 := Lib.hid (fun W (h : Below w.heap.size w W) => show_no ⟨[97], 10, ⟨0, [49], []⟩⟩ (.agg #[.string ⟨#[97]⟩, .int .u8 10, .int .i64 0, .string ⟨#[49]⟩, .string ⟨#[]⟩]) rfl W (hI.below h) ⟨by decide, by decide, by decide, by decide, by decide⟩ (by decide +kernel))
          have Y7 := Lib.hid (fun W (h : Below w.heap.size w W) => words_no2 ⟨[97], 10, ⟨0, [49], []⟩⟩ (.agg #[.string ⟨#[97]⟩, .int .u8 10, .int .i64 0, .string ⟨#[49]⟩, .string ⟨#[]⟩]) rfl W (hI.below h) ⟨by decide, by decide, by decide, by decide, by decide⟩ (by decide +kernel))
          have M7 := Lib.hid (fun W (h : Below w.heap.size w W) => may_is ⟨[97], 10, ⟨0, [49], []⟩⟩ (.agg #[.string ⟨#[97]⟩, .int .u8 10, .int .i64 0, .string ⟨#[49]⟩, .string ⟨#[]⟩]) false rfl W (hI.below h) ⟨by decide, by decide, by decide, by decide, by decide⟩ (by decide +kernel))
          have MA := Lib.hid (fun W (h : Below w.heap.size w W) => may_is ⟨[97], 2, ⟨0, [49], []⟩⟩ (.agg #[.string ⟨#[97]⟩, .int .u8 2, .int .i64 0, .string ⟨#[49]⟩, .string ⟨#[]⟩]) true rfl W (hI.below h) ⟨by decide, by decide, by decide, by decide, by decide⟩ (by decide +kernel))
          have MB := Lib.hid (fun W (h : Below w.heap.size w W) => may_is ⟨[47, 97], 2, ⟨0, [49], []⟩⟩ (.agg #[.string ⟨#[47, 97]⟩, .int .u8 2, .int .i64 0, .string ⟨#[49]⟩, .string ⟨#[]⟩]) false rfl W (hI.below h) ⟨by decide, by decide, by decide, by decide, by decide⟩ (by decide +kernel))
          have Q0 := Lib.hid (fun W (h : Below w.heap.size w W) => of_no none 0 0 [] rfl W (by decide) (by simp) (TR.nil _ _) (hI.below h) rfl)
          have Q1 := Lib.hid (fun X (h : Below w.heap.size w X) (o : Obj) => of_new X o [⟨#[97]⟩, ⟨#[61]⟩] #[.string ⟨#[97]⟩, .string ⟨#[61]⟩] (X.heap.size + 1) 2 2 rfl rfl rfl h hI (by decide) (by decide) (by simp only [List.map_cons, List.map_nil, bs_toList']; exact rfl))
          have Q2 := Lib.hid (fun X (h : Below w.heap.size w X) (o : Obj) => of_new X o [⟨#[97]⟩, ⟨#[]⟩, ⟨#[49]⟩] #[.string ⟨#[97]⟩, .string ⟨#[]⟩, .string ⟨#[49]⟩] (X.heap.size + 1) 3 3 rfl rfl rfl h hI (by decide) (by decide) (by simp only [List.map_cons, List.map_nil, bs_toList']; exact none_op3 (.inr (by decide))))
          have Q3 := Lib.hid (fun X (h : Below w.heap.size w X) (o : Obj) => of_new X o [⟨#[97]⟩, ⟨#[61]⟩, ⟨#[49]⟩, ⟨#[]⟩] #[.string ⟨#[97]⟩, .string ⟨#[61]⟩, .string ⟨#[49]⟩, .string ⟨#[]⟩] (X.heap.size + 1) 4 4 rfl rfl rfl h hI (by decide) (by decide) (by simp only [List.map_cons, List.map_nil, bs_toList']; exact rfl))
          have AW := Lib.hid (fun W (h : Below w.heap.size w W) => awake06 W (hI.below h))
          clear hI
          have HC := Lib.hid (fun W' (h : Below ((wx.alloc (.cells #[.int .i64 0, .string ⟨#[49]⟩, .string ⟨#[]⟩] 35)).alloc (.cells #[.string ⟨#[]⟩, .int .u8 0, .int .i64 0, .string ⟨#[]⟩, .string ⟨#[]⟩, .string ⟨#[97]⟩, .int .u8 0, .int .i64 0, .string ⟨#[49]⟩, .string ⟨#[]⟩, .string ⟨#[97]⟩, .int .u8 5, .int .i64 0, .string ⟨#[49]⟩, .string ⟨#[]⟩, .string ⟨#[97]⟩, .int .u8 2, .int .i64 0, .string ⟨#[]⟩, .string ⟨#[]⟩, .string ⟨#[47, 97]⟩, .int .u8 2, .int .i64 0, .string ⟨#[49]⟩, .string ⟨#[]⟩, .string ⟨#[111, 114]⟩, .int .u8 0, .int .i64 0, .string ⟨#[]⟩, .string ⟨#[]⟩, .string ⟨#[97]⟩, .int .u8 2, .int .i64 (-1), .string ⟨#[49]⟩, .string ⟨#[]⟩, .string ⟨#[97]⟩, .int .u8 10, .int .i64 0, .string ⟨#[49]⟩, .string ⟨#[]⟩] 37)).heap.size ((wx.alloc (.cells #[.int .i64 0, .string ⟨#[49]⟩, .string ⟨#[]⟩] 35)).alloc (.cells #[.string ⟨#[]⟩, .int .u8 0, .int .i64 0, .string ⟨#[]⟩, .string ⟨#[]⟩, .string ⟨#[97]⟩, .int .u8 0, .int .i64 0, .string ⟨#[49]⟩, .string ⟨#[]⟩, .string ⟨#[97]⟩, .int .u8 5, .int .i64 0, .string ⟨#[49]⟩, .string ⟨#[]⟩, .string ⟨#[97]⟩, .int .u8 2, .int .i64 0, .string ⟨#[]⟩, .string ⟨#[]⟩, .string ⟨#[47, 97]⟩, .int .u8 2, .int .i64 0, .string ⟨#[49]⟩, .string ⟨#[]⟩, .string ⟨#[111, 114]⟩, .int .u8 0, .int .i64 0, .string ⟨#[]⟩, .string ⟨#[]⟩, .string ⟨#[97]⟩, .int .u8 2, .int .i64 (-1), .string ⟨#[49]⟩, .string ⟨#[]⟩, .string ⟨#[97]⟩, .int .u8 10, .int .i64 0, .string ⟨#[49]⟩, .string ⟨#[]⟩] 37)) W') (k : Nat) (hk : k < 40) => row_cellsV (wx.alloc (.cells #[.int .i64 0, .string ⟨#[49]⟩, .string ⟨#[]⟩] 35)) [.string ⟨#[]⟩, .int .u8 0, .int .i64 0, .string ⟨#[]⟩, .string ⟨#[]⟩, .string ⟨#[97]⟩, .int .u8 0, .int .i64 0, .string ⟨#[49]⟩, .string ⟨#[]⟩, .string ⟨#[97]⟩, .int .u8 5, .int .i64 0, .string ⟨#[49]⟩, .string ⟨#[]⟩, .string ⟨#[97]⟩, .int .u8 2, .int .i64 0, .string ⟨#[]⟩, .string ⟨#[]⟩, .string ⟨#[47, 97]⟩, .int .u8 2, .int .i64 0, .string ⟨#[49]⟩, .string ⟨#[]⟩, .string ⟨#[111, 114]⟩, .int .u8 0, .int .i64 0, .string ⟨#[]⟩, .string ⟨#[]⟩, .string ⟨#[97]⟩, .int .u8 2, .int .i64 (-1), .string ⟨#[49]⟩, .string ⟨#[]⟩, .string ⟨#[97]⟩, .int .u8 10, .int .i64 0, .string ⟨#[49]⟩, .string ⟨#[]⟩] 37 #[.string ⟨#[]⟩, .int .u8 0, .int .i64 0, .string ⟨#[]⟩, .string ⟨#[]⟩, .string ⟨#[97]⟩, .int .u8 0, .int .i64 0, .string ⟨#[49]⟩, .string ⟨#[]⟩, .string ⟨#[97]⟩, .int .u8 5, .int .i64 0, .string ⟨#[49]⟩, .string ⟨#[]⟩, .string ⟨#[97]⟩, .int .u8 2, .int .i64 0, .string ⟨#[]⟩, .string ⟨#[]⟩, .string ⟨#[47, 97]⟩, .int .u8 2, .int .i64 0, .string ⟨#[49]⟩, .string ⟨#[]⟩, .string ⟨#[111, 114]⟩, .int .u8 0, .int .i64 0, .string ⟨#[]⟩, .string ⟨#[]⟩, .string ⟨#[97]⟩, .int .u8 2, .int .i64 (-1), .string ⟨#[49]⟩, .string ⟨#[]⟩, .string ⟨#[97]⟩, .int .u8 10, .int .i64 0, .string ⟨#[49]⟩, .string ⟨#[]⟩] rfl W' h k hk)
          have VB := Lib.hid (fun W' (h : Below ((wx.alloc (.cells #[.int .i64 0, .string ⟨#[49]⟩, .string ⟨#[]⟩] 35)).alloc (.cells #[.string ⟨#[]⟩, .int .u8 0, .int .i64 0, .string ⟨#[]⟩, .string ⟨#[]⟩, .string ⟨#[97]⟩, .int .u8 0, .int .i64 0, .string ⟨#[49]⟩, .string ⟨#[]⟩, .string ⟨#[97]⟩, .int .u8 5, .int .i64 0, .string ⟨#[49]⟩, .string ⟨#[]⟩, .string ⟨#[97]⟩, .int .u8 2, .int .i64 0, .string ⟨#[]⟩, .string ⟨#[]⟩, .string ⟨#[47, 97]⟩, .int .u8 2, .int .i64 0, .string ⟨#[49]⟩, .string ⟨#[]⟩, .string ⟨#[111, 114]⟩, .int .u8 0, .int .i64 0, .string ⟨#[]⟩, .string ⟨#[]⟩, .string ⟨#[97]⟩, .int .u8 2, .int .i64 (-1), .string ⟨#[49]⟩, .string ⟨#[]⟩, .string ⟨#[97]⟩, .int .u8 10, .int .i64 0, .string ⟨#[49]⟩, .string ⟨#[]⟩] 37)).heap.size ((wx.alloc (.cells #[.int .i64 0, .string ⟨#[49]⟩, .string ⟨#[]⟩] 35)).alloc (.cells #[.string ⟨#[]⟩, .int .u8 0, .int .i64 0, .string ⟨#[]⟩, .string ⟨#[]⟩, .string ⟨#[97]⟩, .int .u8 0, .int .i64 0, .string ⟨#[49]⟩, .string ⟨#[]⟩, .string ⟨#[97]⟩, .int .u8 5, .int .i64 0, .string ⟨#[49]⟩, .string ⟨#[]⟩, .string ⟨#[97]⟩, .int .u8 2, .int .i64 0, .string ⟨#[]⟩, .string ⟨#[]⟩, .string ⟨#[47, 97]⟩, .int .u8 2, .int .i64 0, .string ⟨#[49]⟩, .string ⟨#[]⟩, .string ⟨#[111, 114]⟩, .int .u8 0, .int .i64 0, .string ⟨#[]⟩, .string ⟨#[]⟩, .string ⟨#[97]⟩, .int .u8 2, .int .i64 (-1), .string ⟨#[49]⟩, .string ⟨#[]⟩, .string ⟨#[97]⟩, .int .u8 10, .int .i64 0, .string ⟨#[49]⟩, .string ⟨#[]⟩] 37)) W') => vbox_cells wx (.int .i64 0) (.string ⟨#[49]⟩) (.string ⟨#[]⟩) 35 (.cells #[.string ⟨#[]⟩, .int .u8 0, .int .i64 0, .string ⟨#[]⟩, .string ⟨#[]⟩, .string ⟨#[97]⟩, .int .u8 0, .int .i64 0, .string ⟨#[49]⟩, .string ⟨#[]⟩, .string ⟨#[97]⟩, .int .u8 5, .int .i64 0, .string ⟨#[49]⟩, .string ⟨#[]⟩, .string ⟨#[97]⟩, .int .u8 2, .int .i64 0, .string ⟨#[]⟩, .string ⟨#[]⟩, .string ⟨#[47, 97]⟩, .int .u8 2, .int .i64 0, .string ⟨#[49]⟩, .string ⟨#[]⟩, .string ⟨#[111, 114]⟩, .int .u8 0, .int .i64 0, .string ⟨#[]⟩, .string ⟨#[]⟩, .string ⟨#[97]⟩, .int .u8 2, .int .i64 (-1), .string ⟨#[49]⟩, .string ⟨#[]⟩, .string ⟨#[97]⟩, .int .u8 10, .int .i64 0, .string ⟨#[49]⟩, .string ⟨#[]⟩] 37) W' h)
          have hx1 : (wx.alloc (.cells #[.int .i64 0, .string ⟨#[49]⟩, .string ⟨#[]⟩] 35)).heap.size = wx.heap.size + 1 := by simp
          rw [hx1] at HC
          clear hx1
          have BW := (hB.alloc hB.size (.cells #[.int .i64 0, .string ⟨#[49]⟩, .string ⟨#[]⟩] 35)).alloc (by have := hB.size; simp; omega) (.cells #[.string ⟨#[]⟩, .int .u8 0, .int .i64 0, .string ⟨#[]⟩, .string ⟨#[]⟩, .string ⟨#[97]⟩, .int .u8 0, .int .i64 0, .string ⟨#[49]⟩, .string ⟨#[]⟩, .string ⟨#[97]⟩, .int .u8 5, .int .i64 0, .string ⟨#[49]⟩, .string ⟨#[]⟩, .string ⟨#[97]⟩, .int .u8 2, .int .i64 0, .string ⟨#[]⟩, .string ⟨#[]⟩, .string ⟨#[47, 97]⟩, .int .u8 2, .int .i64 0, .string ⟨#[49]⟩, .string ⟨#[]⟩, .string ⟨#[111, 114]⟩, .int .u8 0, .int .i64 0, .string ⟨#[]⟩, .string ⟨#[]⟩, .string ⟨#[97]⟩, .int .u8 2, .int .i64 (-1), .string ⟨#[49]⟩, .string ⟨#[]⟩, .string ⟨#[97]⟩, .int .u8 10, .int .i64 0, .string ⟨#[49]⟩, .string ⟨#[]⟩] 37)
          generalize (wx.alloc (.cells #[.int .i64 0, .string ⟨#[49]⟩, .string ⟨#[]⟩] 35)).alloc (.cells #[.string ⟨#[]⟩, .int .u8 0, .int .i64 0, .string ⟨#[]⟩, .string ⟨#[]⟩, .string ⟨#[97]⟩, .int .u8 0, .int .i64 0, .string ⟨#[49]⟩, .string ⟨#[]⟩, .string ⟨#[97]⟩, .int .u8 5, .int .i64 0, .string ⟨#[49]⟩, .string ⟨#[]⟩, .string ⟨#[97]⟩, .int .u8 2, .int .i64 0, .string ⟨#[]⟩, .string ⟨#[]⟩, .string ⟨#[47, 97]⟩, .int .u8 2, .int .i64 0, .string ⟨#[49]⟩, .string ⟨#[]⟩, .string ⟨#[111, 114]⟩, .int .u8 0, .int .i64 0, .string ⟨#[]⟩, .string ⟨#[]⟩, .string ⟨#[97]⟩, .int .u8 2, .int .i64 (-1), .string ⟨#[49]⟩, .string ⟨#[]⟩, .string ⟨#[97]⟩, .int .u8 10, .int .i64 0, .string ⟨#[49]⟩, .string ⟨#[]⟩] 37) = V6 at *
          generalize wx.heap.size = g6 at *
          clear hB
          have hB := Below.refl V6.heap.size V6
          refine wp_loop_rounds 9 ?_
          rw [rounds_succ]
          have c0 := HC.out _ hB 0 (by decide)
          simp only [List.getElem_cons_zero] at c0
          have c1 := HC.out _ hB 1 (by decide)
          simp only [List.getElem_cons_zero, List.getElem_cons_succ] at c1
          have c2 := HC.out _ hB 2 (by decide)
          simp only [List.getElem_cons_zero, List.getElem_cons_succ] at c2
          have c3 := HC.out _ hB 3 (by decide)
          simp only [List.getElem_cons_zero, List.getElem_cons_succ] at c3
          have c4 := HC.out _ hB 4 (by decide)
          simp only [List.getElem_cons_zero, List.getElem_cons_succ] at c4
          have hB := hB.alloc hB.size (.cells #[.string ⟨#[]⟩, .int .u8 0, .int .i64 0, .string ⟨#[]⟩, .string ⟨#[]⟩] 37)
          go_wp2_with fail
          go_at_call 21
          refine (S0.out _ (BW.trans (hB.mono BW.size))).mono ?_
          rintro e ws ⟨rfl, h⟩
          have b0 : ws.cell? ⟨V6.heap.size, 0, none⟩ = some (.string ⟨#[]⟩) := cell_after h ((World.cell?_alloc_at _ _ _ _ rfl).trans rfl) (by simp)
          have b1 : ws.cell? ⟨V6.heap.size, 1, none⟩ = some (.int .u8 0) := cell_after h ((World.cell?_alloc_at _ _ _ _ rfl).trans rfl) (by simp)
          have b2 : ws.cell? ⟨V6.heap.size, 2, none⟩ = some (.int .i64 0) := cell_after h ((World.cell?_alloc_at _ _ _ _ rfl).trans rfl) (by simp)
          have b3 : ws.cell? ⟨V6.heap.size, 3, none⟩ = some (.string ⟨#[]⟩) := cell_after h ((World.cell?_alloc_at _ _ _ _ rfl).trans rfl) (by simp)
          have b4 : ws.cell? ⟨V6.heap.size, 4, none⟩ = some (.string ⟨#[]⟩) := cell_after h ((World.cell?_alloc_at _ _ _ _ rfl).trans rfl) (by simp)
          have lb : V6.heap.size < ws.heap.size := by have := h.size; simp at this; omega
          have hB := hB.trans (h.mono hB.size)
          clear h c0 c1 c2 c3 c4 S0
          go_wp2_with fail
          go_at_call 22
          refine (Y0.out _ (BW.trans (hB.mono BW.size))).mono ?_
          rintro e wt ⟨A, c, rfl, h⟩
          have b0 := cell_after h b0 lb
          have b1 := cell_after h b1 lb
          have b2 := cell_after h b2 lb
          have b3 := cell_after h b3 lb
          have b4 := cell_after h b4 lb
          have hB := hB.trans (h.mono hB.size)
          clear h lb Y0
          go_wp2_with fail
          go_at_call 23
          refine (M0.out _ (BW.trans (hB.mono BW.size))).mono ?_
          rintro e wn ⟨rfl, h⟩
          have hB := hB.trans (h.mono hB.size)
          clear h b0 b1 b2 b3 b4 M0
          go_wp2_with fail
          rw [rounds_succ]
          have c0 := HC.out _ hB 5 (by decide)
          simp only [List.getElem_cons_zero, List.getElem_cons_succ] at c0
          have c1 := HC.out _ hB 6 (by decide)
          simp only [List.getElem_cons_zero, List.getElem_cons_succ] at c1
          have c2 := HC.out _ hB 7 (by decide)
          simp only [List.getElem_cons_zero, List.getElem_cons_succ] at c2
          have c3 := HC.out _ hB 8 (by decide)
          simp only [List.getElem_cons_zero, List.getElem_cons_succ] at c3
          have c4 := HC.out _ hB 9 (by decide)
          simp only [List.getElem_cons_zero, List.getElem_cons_succ] at c4
          have hB := hB.alloc hB.size (.cells #[.string ⟨#[97]⟩, .int .u8 0, .int .i64 0, .string ⟨#[49]⟩, .string ⟨#[]⟩] 37)
          go_wp2_with fail
          go_at_call 21
          refine (S1.out _ (BW.trans (hB.mono BW.size))).mono ?_
          rintro e ws ⟨rfl, h⟩
          have b0 : ws.cell? ⟨wn.heap.size, 0, none⟩ = some (.string ⟨#[97]⟩) := cell_after h ((World.cell?_alloc_at _ _ _ _ rfl).trans rfl) (by simp)
          have b1 : ws.cell? ⟨wn.heap.size, 1, none⟩ = some (.int .u8 0) := cell_after h ((World.cell?_alloc_at _ _ _ _ rfl).trans rfl) (by simp)
          have b2 : ws.cell? ⟨wn.heap.size, 2, none⟩ = some (.int .i64 0) := cell_after h ((World.cell?_alloc_at _ _ _ _ rfl).trans rfl) (by simp)
          have b3 : ws.cell? ⟨wn.heap.size, 3, none⟩ = some (.string ⟨#[49]⟩) := cell_after h ((World.cell?_alloc_at _ _ _ _ rfl).trans rfl) (by simp)
          have b4 : ws.cell? ⟨wn.heap.size, 4, none⟩ = some (.string ⟨#[]⟩) := cell_after h ((World.cell?_alloc_at _ _ _ _ rfl).trans rfl) (by simp)
          have lb : wn.heap.size < ws.heap.size := by have := h.size; simp at this; omega
          have hB := hB.trans (h.mono hB.size)
          clear h c0 c1 c2 c3 c4 S1
          go_wp2_with fail
          go_at_call 22
          refine (Y1.out _ (BW.trans (hB.mono BW.size))).mono ?_
          rintro e wt ⟨A, c, rfl, h⟩
          have b0 := cell_after h b0 lb
          have b1 := cell_after h b1 lb
          have b2 := cell_after h b2 lb
          have b3 := cell_after h b3 lb
          have b4 := cell_after h b4 lb
          have hB := hB.trans (h.mono hB.size)
          clear h lb Y1
          go_wp2_with fail
          go_at_call 23
          refine (M1.out _ (BW.trans (hB.mono BW.size))).mono ?_
          rintro e wn ⟨rfl, h⟩
          have hB := hB.trans (h.mono hB.size)
          clear h b0 b1 b2 b3 b4 M1
          go_wp2_with fail
          rw [rounds_succ]
          have c0 := HC.out _ hB 10 (by decide)
          simp only [List.getElem_cons_zero, List.getElem_cons_succ] at c0
          have c1 := HC.out _ hB 11 (by decide)
          simp only [List.getElem_cons_zero, List.getElem_cons_succ] at c1
          have c2 := HC.out _ hB 12 (by decide)
          simp only [List.getElem_cons_zero, List.getElem_cons_succ] at c2
          have c3 := HC.out _ hB 13 (by decide)
          simp only [List.getElem_cons_zero, List.getElem_cons_succ] at c3
          have c4 := HC.out _ hB 14 (by decide)
          simp only [List.getElem_cons_zero, List.getElem_cons_succ] at c4
          have hB := hB.alloc hB.size (.cells #[.string ⟨#[97]⟩, .int .u8 5, .int .i64 0, .string ⟨#[49]⟩, .string ⟨#[]⟩] 37)
          go_wp2_with fail
          go_at_call 21
          refine (S2.out _ (BW.trans (hB.mono BW.size))).mono ?_
          rintro e ws ⟨rfl, h⟩
          have b0 : ws.cell? ⟨wn.heap.size, 0, none⟩ = some (.string ⟨#[97]⟩) := cell_after h ((World.cell?_alloc_at _ _ _ _ rfl).trans rfl) (by simp)
          have b1 : ws.cell? ⟨wn.heap.size, 1, none⟩ = some (.int .u8 5) := cell_after h ((World.cell?_alloc_at _ _ _ _ rfl).trans rfl) (by simp)
          have b2 : ws.cell? ⟨wn.heap.size, 2, none⟩ = some (.int .i64 0) := cell_after h ((World.cell?_alloc_at _ _ _ _ rfl).trans rfl) (by simp)
          have b3 : ws.cell? ⟨wn.heap.size, 3, none⟩ = some (.string ⟨#[49]⟩) := cell_after h ((World.cell?_alloc_at _ _ _ _ rfl).trans rfl) (by simp)
          have b4 : ws.cell? ⟨wn.heap.size, 4, none⟩ = some (.string ⟨#[]⟩) := cell_after h ((World.cell?_alloc_at _ _ _ _ rfl).trans rfl) (by simp)
          have lb : wn.heap.size < ws.heap.size := by have := h.size; simp at this; omega
          have hB := hB.trans (h.mono hB.size)
          clear h c0 c1 c2 c3 c4 S2
          go_wp2_with fail
          go_at_call 22
          refine (Y2.out _ (BW.trans (hB.mono BW.size))).mono ?_
          rintro e wt ⟨A, c, rfl, h⟩
          have b0 := cell_after h b0 lb
          have b1 := cell_after h b1 lb
          have b2 := cell_after h b2 lb
          have b3 := cell_after h b3 lb
          have b4 := cell_after h b4 lb
          have hB := hB.trans (h.mono hB.size)
          clear h lb Y2
          go_wp2_with fail
          go_at_call 23
          refine (M2.out _ (BW.trans (hB.mono BW.size))).mono ?_
          rintro e wn ⟨rfl, h⟩
          have hB := hB.trans (h.mono hB.size)
          clear h b0 b1 b2 b3 b4 M2
          go_wp2_with fail
          rw [rounds_succ]
          have c0 := HC.out _ hB 15 (by decide)
          simp only [List.getElem_cons_zero, List.getElem_cons_succ] at c0
          have c1 := HC.out _ hB 16 (by decide)
          simp only [List.getElem_cons_zero, List.getElem_cons_succ] at c1
          have c2 := HC.out _ hB 17 (by decide)
          simp only [List.getElem_cons_zero, List.getElem_cons_succ] at c2
          have c3 := HC.out _ hB 18 (by decide)
          simp only [List.getElem_cons_zero, List.getElem_cons_succ] at c3
          have c4 := HC.out _ hB 19 (by decide)
          simp only [List.getElem_cons_zero, List.getElem_cons_succ] at c4
          have hB := hB.alloc hB.size (.cells #[.string ⟨#[97]⟩, .int .u8 2, .int .i64 0, .string ⟨#[]⟩, .string ⟨#[]⟩] 37)
          go_wp2_with fail
          go_at_call 21
          refine (S3.out _ (BW.trans (hB.mono BW.size))).mono ?_
          rintro e ws ⟨rfl, h⟩
          have b0 : ws.cell? ⟨wn.heap.size, 0, none⟩ = some (.string ⟨#[97]⟩) := cell_after h ((World.cell?_alloc_at _ _ _ _ rfl).trans rfl) (by simp)
          have b1 : ws.cell? ⟨wn.heap.size, 1, none⟩ = some (.int .u8 2) := cell_after h ((World.cell?_alloc_at _ _ _ _ rfl).trans rfl) (by simp)
          have b2 : ws.cell? ⟨wn.heap.size, 2, none⟩ = some (.int .i64 0) := cell_after h ((World.cell?_alloc_at _ _ _ _ rfl).trans rfl) (by simp)
          have b3 : ws.cell? ⟨wn.heap.size, 3, none⟩ = some (.string ⟨#[]⟩) := cell_after h ((World.cell?_alloc_at _ _ _ _ rfl).trans rfl) (by simp)
          have b4 : ws.cell? ⟨wn.heap.size, 4, none⟩ = some (.string ⟨#[]⟩) := cell_after h ((World.cell?_alloc_at _ _ _ _ rfl).trans rfl) (by simp)
          have lb : wn.heap.size < ws.heap.size := by have := h.size; simp at this; omega
          have hB := hB.trans (h.mono hB.size)
          clear h c0 c1 c2 c3 c4 S3
          go_wp2_with fail
          go_at_call 22
          refine (Y3.out _ (BW.trans (hB.mono BW.size))).mono ?_
          rintro e wt ⟨A, c, rfl, h⟩
          have b0 := cell_after h b0 lb
          have b1 := cell_after h b1 lb
          have b2 := cell_after h b2 lb
          have b3 := cell_after h b3 lb
          have b4 := cell_after h b4 lb
          have hB := hB.trans (h.mono hB.size)
          clear h lb Y3
          go_wp2_with fail
          go_at_call 23
          refine (M3.out _ (BW.trans (hB.mono BW.size))).mono ?_
          rintro e wn ⟨rfl, h⟩
          have hB := hB.trans (h.mono hB.size)
          clear h b0 b1 b2 b3 b4 M3
          go_wp2_with fail
          rw [rounds_succ]
          have c0 := HC.out _ hB 20 (by decide)
          simp only [List.getElem_cons_zero, List.getElem_cons_succ] at c0
          have c1 := HC.out _ hB 21 (by decide)
          simp only [List.getElem_cons_zero, List.getElem_cons_succ] at c1
          have c2 := HC.out _ hB 22 (by decide)
          simp only [List.getElem_cons_zero, List.getElem_cons_succ] at c2
          have c3 := HC.out _ hB 23 (by decide)
          simp only [List.getElem_cons_zero, List.getElem_cons_succ] at c3
          have c4 := HC.out _ hB 24 (by decide)
          simp only [List.getElem_cons_zero, List.getElem_cons_succ] at c4
          have hB := hB.alloc hB.size (.cells #[.string ⟨#[47, 97]⟩, .int .u8 2, .int .i64 0, .string ⟨#[49]⟩, .string ⟨#[]⟩] 37)
          go_wp2_with fail
          go_at_call 21
          refine (S4.out _ (BW.trans (hB.mono BW.size))).mono ?_
          rintro e ws ⟨rfl, h⟩
          have b0 : ws.cell? ⟨wn.heap.size, 0, none⟩ = some (.string ⟨#[47, 97]⟩) := cell_after h ((World.cell?_alloc_at _ _ _ _ rfl).trans rfl) (by simp)
          have b1 : ws.cell? ⟨wn.heap.size, 1, none⟩ = some (.int .u8 2) := cell_after h ((World.cell?_alloc_at _ _ _ _ rfl).trans rfl) (by simp)
          have b2 : ws.cell? ⟨wn.heap.size, 2, none⟩ = some (.int .i64 0) := cell_after h ((World.cell?_alloc_at _ _ _ _ rfl).trans rfl) (by simp)
          have b3 : ws.cell? ⟨wn.heap.size, 3, none⟩ = some (.string ⟨#[49]⟩) := cell_after h ((World.cell?_alloc_at _ _ _ _ rfl).trans rfl) (by simp)
          have b4 : ws.cell? ⟨wn.heap.size, 4, none⟩ = some (.string ⟨#[]⟩) := cell_after h ((World.cell?_alloc_at _ _ _ _ rfl).trans rfl) (by simp)
          have lb : wn.heap.size < ws.heap.size := by have := h.size; simp at this; omega
          have hB := hB.trans (h.mono hB.size)
          clear h c0 c1 c2 c3 c4 S4
          go_wp2_with fail
          go_at_call 22
          refine (Y4.out _ (BW.trans (hB.mono BW.size))).mono ?_
          rintro e wt ⟨A, c, rfl, h⟩
          have b0 := cell_after h b0 lb
          have b1 := cell_after h b1 lb
          have b2 := cell_after h b2 lb
          have b3 := cell_after h b3 lb
          have b4 := cell_after h b4 lb
          have hB := hB.trans (h.mono hB.size)
          clear h lb Y4
          go_wp2_with fail
          go_at_call 23
          refine (M4.out _ (BW.trans (hB.mono BW.size))).mono ?_
          rintro e wn ⟨rfl, h⟩
          have hB := hB.trans (h.mono hB.size)
          clear h b0 b1 b2 b3 b4 M4
          go_wp2_with fail
          rw [rounds_succ]
          have c0 := HC.out _ hB 25 (by decide)
          simp only [List.getElem_cons_zero, List.getElem_cons_succ] at c0
          have c1 := HC.out _ hB 26 (by decide)
          simp only [List.getElem_cons_zero, List.getElem_cons_succ] at c1
          have c2 := HC.out _ hB 27 (by decide)
          simp only [List.getElem_cons_zero, List.getElem_cons_succ] at c2
          have c3 := HC.out _ hB 28 (by decide)
          simp only [List.getElem_cons_zero, List.getElem_cons_succ] at c3
          have c4 := HC.out _ hB 29 (by decide)
          simp only [List.getElem_cons_zero, List.getElem_cons_succ] at c4
          have hB := hB.alloc hB.size (.cells #[.string ⟨#[111, 114]⟩, .int .u8 0, .int .i64 0, .string ⟨#[]⟩, .string ⟨#[]⟩] 37)
          go_wp2_with fail
          go_at_call 21
          refine (S5.out _ (BW.trans (hB.mono BW.size))).mono ?_
          rintro e ws ⟨rfl, h⟩
          have b0 : ws.cell? ⟨wn.heap.size, 0, none⟩ = some (.string ⟨#[111, 114]⟩) := cell_after h ((World.cell?_alloc_at _ _ _ _ rfl).trans rfl) (by simp)
          have b1 : ws.cell? ⟨wn.heap.size, 1, none⟩ = some (.int .u8 0) := cell_after h ((World.cell?_alloc_at _ _ _ _ rfl).trans rfl) (by simp)
          have b2 : ws.cell? ⟨wn.heap.size, 2, none⟩ = some (.int .i64 0) := cell_after h ((World.cell?_alloc_at _ _ _ _ rfl).trans rfl) (by simp)
          have b3 : ws.cell? ⟨wn.heap.size, 3, none⟩ = some (.string ⟨#[]⟩) := cell_after h ((World.cell?_alloc_at _ _ _ _ rfl).trans rfl) (by simp)
          have b4 : ws.cell? ⟨wn.heap.size, 4, none⟩ = some (.string ⟨#[]⟩) := cell_after h ((World.cell?_alloc_at _ _ _ _ rfl).trans rfl) (by simp)
          have lb : wn.heap.size < ws.heap.size := by have := h.size; simp at this; omega
          have hB := hB.trans (h.mono hB.size)
          clear h c0 c1 c2 c3 c4 S5
          go_wp2_with fail
          go_at_call 22
          refine (Y5.out _ (BW.trans (hB.mono BW.size))).mono ?_
          rintro e wt ⟨A, c, rfl, h⟩
          have b0 := cell_after h b0 lb
          have b1 := cell_after h b1 lb
          have b2 := cell_after h b2 lb
          have b3 := cell_after h b3 lb
          have b4 := cell_after h b4 lb
          have hB := hB.trans (h.mono hB.size)
          clear h lb Y5
          go_wp2_with fail
          go_at_call 23
          refine (M5.out _ (BW.trans (hB.mono BW.size))).mono ?_
          rintro e wn ⟨rfl, h⟩
          have hB := hB.trans (h.mono hB.size)
          clear h b0 b1 b2 b3 b4 M5
          go_wp2_with fail
          rw [rounds_succ]
          have c0 := HC.out _ hB 30 (by decide)
          simp only [List.getElem_cons_zero, List.getElem_cons_succ] at c0
          have c1 := HC.out _ hB 31 (by decide)
          simp only [List.getElem_cons_zero, List.getElem_cons_succ] at c1
          have c2 := HC.out _ hB 32 (by decide)
          simp only [List.getElem_cons_zero, List.getElem_cons_succ] at c2
          have c3 := HC.out _ hB 33 (by decide)
          simp only [List.getElem_cons_zero, List.getElem_cons_succ] at c3
          have c4 := HC.out _ hB 34 (by decide)
          simp only [List.getElem_cons_zero, List.getElem_cons_succ] at c4
          have hB := hB.alloc hB.size (.cells #[.string ⟨#[97]⟩, .int .u8 2, .int .i64 (-1), .string ⟨#[49]⟩, .string ⟨#[]⟩] 37)
          go_wp2_with fail
          go_at_call 21
          refine (S6.out _ (BW.trans (hB.mono BW.size))).mono ?_
          rintro e ws ⟨rfl, h⟩
          have b0 : ws.cell? ⟨wn.heap.size, 0, none⟩ = some (.string ⟨#[97]⟩) := cell_after h ((World.cell?_alloc_at _ _ _ _ rfl).trans rfl) (by simp)
          have b1 : ws.cell? ⟨wn.heap.size, 1, none⟩ = some (.int .u8 2) := cell_after h ((World.cell?_alloc_at _ _ _ _ rfl).trans rfl) (by simp)
          have b2 : ws.cell? ⟨wn.heap.size, 2, none⟩ = some (.int .i64 (-1)) := cell_after h ((World.cell?_alloc_at _ _ _ _ rfl).trans rfl) (by simp)
          have b3 : ws.cell? ⟨wn.heap.size, 3, none⟩ = some (.string ⟨#[49]⟩) := cell_after h ((World.cell?_alloc_at _ _ _ _ rfl).trans rfl) (by simp)
          have b4 : ws.cell? ⟨wn.heap.size, 4, none⟩ = some (.string ⟨#[]⟩) := cell_after h ((World.cell?_alloc_at _ _ _ _ rfl).trans rfl) (by simp)
          have lb : wn.heap.size < ws.heap.size := by have := h.size; simp at this; omega
          have hB := hB.trans (h.mono hB.size)
          clear h c0 c1 c2 c3 c4 S6
          go_wp2_with fail
          go_at_call 22
          refine (Y6.out _ (BW.trans (hB.mono BW.size))).mono ?_
          rintro e wt ⟨A, c, rfl, h⟩
          have b0 := cell_after h b0 lb
          have b1 := cell_after h b1 lb
          have b2 := cell_after h b2 lb
          have b3 := cell_after h b3 lb
          have b4 := cell_after h b4 lb
          have hB := hB.trans (h.mono hB.size)
          clear h lb Y6
          go_wp2_with fail
          go_at_call 23
          refine (M6.out _ (BW.trans (hB.mono BW.size))).mono ?_
          rintro e wn ⟨rfl, h⟩
          have hB := hB.trans (h.mono hB.size)
          clear h b0 b1 b2 b3 b4 M6
          go_wp2_with fail
          rw [rounds_succ]
          have c0 := HC.out _ hB 35 (by decide)
          simp only [List.getElem_cons_zero, List.getElem_cons_succ] at c0
          have c1 := HC.out _ hB 36 (by decide)
          simp only [List.getElem_cons_zero, List.getElem_cons_succ] at c1
          have c2 := HC.out _ hB 37 (by decide)
          simp only [List.getElem_cons_zero, List.getElem_cons_succ] at c2
          have c3 := HC.out _ hB 38 (by decide)
          simp only [List.getElem_cons_zero, List.getElem_cons_succ] at c3
          have c4 := HC.out _ hB 39 (by decide)
          simp only [List.getElem_cons_zero, List.getElem_cons_succ] at c4
          have hB := hB.alloc hB.size (.cells #[.string ⟨#[97]⟩, .int .u8 10, .int .i64 0, .string ⟨#[49]⟩, .string ⟨#[]⟩] 37)
          go_wp2_with fail
          go_at_call 21
          refine (S7.out _ (BW.trans (hB.mono BW.size))).mono ?_
          rintro e ws ⟨rfl, h⟩
          have b0 : ws.cell? ⟨wn.heap.size, 0, none⟩ = some (.string ⟨#[97]⟩) := cell_after h ((World.cell?_alloc_at _ _ _ _ rfl).trans rfl) (by simp)
          have b1 : ws.cell? ⟨wn.heap.size, 1, none⟩ = some (.int .u8 10) := cell_after h ((World.cell?_alloc_at _ _ _ _ rfl).trans rfl) (by simp)
          have b2 : ws.cell? ⟨wn.heap.size, 2, none⟩ = some (.int .i64 0) := cell_after h ((World.cell?_alloc_at _ _ _ _ rfl).trans rfl) (by simp)
          have b3 : ws.cell? ⟨wn.heap.size, 3, none⟩ = some (.string ⟨#[49]⟩) := cell_after h ((World.cell?_alloc_at _ _ _ _ rfl).trans rfl) (by simp)
          have b4 : ws.cell? ⟨wn.heap.size, 4, none⟩ = some (.string ⟨#[]⟩) := cell_after h ((World.cell?_alloc_at _ _ _ _ rfl).trans rfl) (by simp)
          have lb : wn.heap.size < ws.heap.size := by have := h.size; simp at this; omega
          have hB := hB.trans (h.mono hB.size)
          clear h c0 c1 c2 c3 c4 S7
          go_wp2_with fail
          go_at_call 22
          refine (Y7.out _ (BW.trans (hB.mono BW.size))).mono ?_
          rintro e wt ⟨A, c, rfl, h⟩
          have b0 := cell_after h b0 lb
          have b1 := cell_after h b1 lb
          have b2 := cell_after h b2 lb
          have b3 := cell_after h b3 lb
          have b4 := cell_after h b4 lb
          have hB := hB.trans (h.mono hB.size)
          clear h lb Y7
          go_wp2_with fail
          go_at_call 23
          refine (M7.out _ (BW.trans (hB.mono BW.size))).mono ?_
          rintro e wn ⟨rfl, h⟩
          have hB := hB.trans (h.mono hB.size)
          clear h b0 b1 b2 b3 b4 M7
          go_wp2_with fail
          clear HC
          rw [rounds_succ]
          go_wp2_with fail
          go_at_call 24
          refine (Q0.out _ (BW.trans (hB.mono BW.size))).mono ?_
          rintro e wn ⟨rfl, h⟩
          have hB := hB.trans (h.mono hB.size)
          clear h Q0
          go_wp2_with fail
          go_at_call 24
          refine (Q1.out _ (BW.trans (hB.mono BW.size)) _).mono ?_
          rintro e wm ⟨rfl, h⟩
          have hB := hB.trans (h.mono hB.size)
          clear h Q1
          go_wp2_with fail
          go_at_call 24
          refine (Q2.out _ (BW.trans (hB.mono BW.size)) _).mono ?_
          rintro e wm ⟨rfl, h⟩
          have hB := hB.trans (h.mono hB.size)
          clear h Q2
          go_wp2_with fail
          go_at_call 24
          refine (Q3.out _ (BW.trans (hB.mono BW.size)) _).mono ?_
          rintro e wm ⟨rfl, h⟩
          have hB := hB.trans (h.mono hB.size)
          clear h Q3
          have hB := hB.alloc hB.size (.cells #[.string ⟨#[]⟩, .int .u8 0, .int .i64 0, .string ⟨#[]⟩, .string ⟨#[]⟩] 37)
          obtain ⟨v0, v1, v2⟩ := VB.out _ hB
          go_wp2_with fail
          go_at_call 25
          refine (own_v ⟨#[97]⟩ _).mono ?_
          rintro e wo ⟨rfl, h⟩
          have hB := hB.trans (h.mono hB.size)
          clear h v0 v1 v2
          go_wp2_with fail
          go_at_call 23
          refine (MA.out _ (BW.trans (hB.mono BW.size))).mono ?_
          rintro e wp ⟨rfl, h⟩
          have hB := hB.trans (h.mono hB.size)
          clear h
          obtain ⟨v0, v1, v2⟩ := VB.out _ hB
          go_wp2_with fail
          go_at_call 25
          refine (own_v ⟨#[47, 97]⟩ _).mono ?_
          rintro e wo ⟨rfl, h⟩
          have hB := hB.trans (h.mono hB.size)
          clear h v0 v1 v2
          go_wp2_with fail
          go_at_call 23
          refine (MB.out _ (BW.trans (hB.mono BW.size))).mono ?_
          rintro e wp ⟨rfl, h⟩
          have hB := hB.trans (h.mono hB.size)
          clear h
          go_wp2_with fail
          go_at_call 26
          refine (AW.out _ (BW.trans (hB.mono BW.size))).mono ?_
          rintro e wp ⟨rfl, h⟩
          have hB := hB.trans (h.mono hB.size)
          clear h
          go_wp2_with fail
          go_ret
          exact ⟨rfl, BW.trans (hB.mono BW.size)⟩
end Go.Proofs.YtinidiiachedbaaDoor
