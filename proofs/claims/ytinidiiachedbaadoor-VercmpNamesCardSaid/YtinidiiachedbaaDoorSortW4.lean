/- Walks: Go's stable sort at texts: merging in place, where one part is a single text. -/
import Derived.Test.YtinidiiachedbaaDoorSortW2
import Derived.Test.YtinidiiachedbaaDoorSortW3
namespace Go.Proofs.YtinidiiachedbaaDoor
open Go.RowKit Go.Shelf

theorem half_nat (i j : Nat) (h : i < j) : i ≤ (i + j) / 2 ∧ (i + j) / 2 < j := by omega
theorem before_lt {V1 V2a V2b V3 : List ByteArray} {v x : ByteArray} (hs : Srt ltS (V1 ++ (V2a ++ v :: V2b) ++ V3)) (h : ltS v x = true) : ∀ y ∈ V2a, ltS y x = true := by
  intro y hy
  have h1 := (List.pairwise_append.1 (List.pairwise_append.1 (List.pairwise_append.1 hs).1).2.1).2.2 y hy v (by simp)
  exact ordS.le_lt h1 h
theorem behind_ge {V1 V2a V2b V3 : List ByteArray} {v x : ByteArray} (hs : Srt ltS (V1 ++ (V2a ++ v :: V2b) ++ V3)) (h : ltS v x = false) : ∀ y ∈ V2b, ltS y x = false := by
  intro y hy
  have h1 := (List.pairwise_append.1 (List.pairwise_append.1 hs).1).2.1
  have h2 := (List.pairwise_cons.1 (List.pairwise_append.1 h1).2.1).1 y hy
  exact ordS.ntrans y v x h2 h
theorem before_ge {V1 V2a V2b V3 : List ByteArray} {v x : ByteArray} (hs : Srt ltS (V1 ++ (V2a ++ v :: V2b) ++ V3)) (h : ltS x v = false) : ∀ y ∈ V2a, ltS x y = false := by
  intro y hy
  have h1 := (List.pairwise_append.1 (List.pairwise_append.1 (List.pairwise_append.1 hs).1).2.1).2.2 y hy v (by simp)
  exact ordS.ntrans x v y h h1
theorem behind_lt {V1 V2a V2b V3 : List ByteArray} {v x : ByteArray} (hs : Srt ltS (V1 ++ (V2a ++ v :: V2b) ++ V3)) (h : ltS x v = true) : ∀ y ∈ V2b, ltS x y = true := by
  intro y hy
  have h1 := (List.pairwise_append.1 (List.pairwise_append.1 hs).1).2.1
  have h2 := (List.pairwise_cons.1 (List.pairwise_append.1 h1).2.1).1 y hy
  exact ordS.lt_le h h2
/-- one text in the middle of a part -/
theorem mid_of (l : List ByteArray) (k : Nat) (h : k < l.length) : ∃ a v b, l = a ++ v :: b ∧ a.length = k := by
  refine ⟨l.take k, l[k], l.drop (k + 1), ?_, by rw [List.length_take]; omega⟩
  rw [← List.drop_eq_getElem_cons h, List.take_append_drop]
set_option maxRecDepth 100000 in
set_option maxHeartbeats 8000000 in
theorem symOne_any (g cap N : Nat) (A V C : List ByteArray) (x : ByteArray) (a b : Nat) (w : World) (ha : a = A.length) (hb : b = A.length + 1 + V.length) (hN : N = (A ++ [x] ++ V ++ C).length) (hN2 : N ≤ 1000000) (hs : Srt ltS V) (hsh : Sh (x :: V))
    (hrow : RowS w g (A ++ [x] ++ V ++ C)) :
    Calls Tryd.prog 108 #[.slice (some ⟨g, 0, none⟩) N cap, .int .i64 (a : Int), .int .i64 ((a : Int) + 1), .int .i64 (b : Int), cmpF] w fun e w' => e = .returned (.tuple #[]) ∧ RowS w' g (A ++ mg ltS [x] V ++ C) ∧ Turn w w' g := by
  have hl : a + 1 + V.length + C.length = N := by rw [hN, ha]; simp; omega
  have hb2 : b = a + 1 + V.length := by omega
  have hbN : (b : Int) ≤ (N : Int) := by omega
  have hNN : (N : Int) ≤ 1000000 := by omega
  have hab : (a : Int) + 1 ≤ (b : Int) := by omega
  have HA := Lib.hid ha
  have HB := Lib.hid hb2
  have HS := Lib.hid hs
  have HSH := Lib.hid hsh
  have h1 : (a : Int) + 1 - (a : Int) = 1 := by omega
  have HROW := Lib.hid hrow
  clear ha hb hb2 hl hN hs hsh hrow
  go_enter Tryd.func108, Tryd.ntmps108
  go_wp2
  go_loopw [10, 11, 12] (fun si sj _ wr => ∃ (i j : Nat) (V1 V2 V3 : List ByteArray), si = .int .i64 (i : Int) ∧ sj = .int .i64 (j : Int) ∧ a + 1 ≤ i ∧ i ≤ j ∧ j ≤ b ∧ RowKit.Hid (V = V1 ++ V2 ++ V3) ∧ RowKit.Hid (a + 1 + V1.length = i) ∧ RowKit.Hid (i + V2.length = j) ∧ RowKit.Hid (∀ y ∈ V1, ltS y x = true) ∧ RowKit.Hid (∀ y ∈ V3, ltS y x = false) ∧ RowS wr g (A ++ [x] ++ V ++ C) ∧ Turn w wr g) (fun i j _ _ => (intOf j).toNat - (intOf i).toNat)
  case atStart => exact ⟨a + 1, b, [], V, [], by go_num, rfl, by omega, by omega, by omega, Lib.hid (by simp), Lib.hid (by simp), Lib.hid (by have := HB.out; omega), Lib.hid (by simp), Lib.hid (by simp), HROW.out, Turn.refl⟩
  case round =>
    obtain ⟨i, j, V1, V2, V3, rfl, rfl, hi1, hij, hjb, HV, HI, HJ, H1, H3, hR, hT⟩ := hrel
    by_cases hlt : i < j
    · obtain ⟨hh1, hh2⟩ := half_nat i j hlt
      generalize hh : (i + j) / 2 = h at *
      obtain ⟨V2a, v, V2b, e, hva⟩ := mid_of V2 (h - i) (by have := HJ.out; omega)
      subst e
      have HH := Lib.hid hh
      have HVA := Lib.hid hva
      clear hh hva
      have hd : ((i : Int) + (j : Int)) / 2 = (h : Int) := by have := HH.out; omega
      have eD : A ++ [x] ++ V ++ C = (A ++ [x] ++ V1 ++ V2a) ++ v :: (V2b ++ V3 ++ C) := by rw [HV.out]; simp
      have eD2 : A ++ [x] ++ V ++ C = A ++ x :: (V ++ C) := by simp
      have p1 := (hR.at_ (k := h) (by rw [eD]; exact one_at (by have := HI.out; have := HVA.out; have := HA.out; simp; omega))).1
      have p2 := (hR.at_ (k := a) (by rw [eD2]; exact one_at HA.out)).1
      have hvs : v.size ≤ 1000000 := HSH.out v (by rw [HV.out]; simp)
      have hxs : x.size ≤ 1000000 := HSH.out x (by simp)
      have K := Lib.hid (fun W => sortCmp_any v x W hvs hxs)
      have s2 := HS.out
      rw [HV.out] at s2
      have b1 : (0 : Int) ≤ (h : Int) := by omega
      have b2 : (h : Int) < (N : Int) := by omega
      have b3 : (a : Int) < (N : Int) := by omega
      cases hc : ltS v x with
      | true =>
        have L2 := Lib.hid (before_lt s2 hc)
        have HC := Lib.hid hc
        have hc3 : comp v.toList x.toList < 0 := by unfold ltS at hc; simpa using hc
        generalize comp v.toList x.toList = c at *
        have hc4 : decide (c < 0) = true := decide_eq_true hc3
        clear hc s2 eD eD2
        go_wp2
        go_region_held3 (fun W => W.cell? ⟨g, h, none⟩ = some (.string v) ∧ W.cell? ⟨g, a, none⟩ = some (.string x) ∧ RowS W g (A ++ [x] ++ V ++ C) ∧ Turn w W g) (first | exact keepR (by assumption) hbb | exact ⟨p1, p2, hR.drew, hT.drew⟩ | go_keep)
          (first | (go_at_call 39; refine (K.out _).mono ?_; rintro e' w' ⟨rfl, hbb⟩))
        rename_i hq
        clear p1 p2 hR hT
        go_wp2
        go_roundw
        case rel => exact ⟨h + 1, j, V1 ++ V2a ++ [v], V2b, V3, by go_num, rfl, by omega, by omega, hjb, Lib.hid (by rw [HV.out]; simp), Lib.hid (by have := HI.out; have := HVA.out; simp; omega), Lib.hid (by have := HJ.out; have := HVA.out; simp at *; omega), Lib.hid (by
          intro y hy
          simp only [List.mem_append, List.mem_singleton] at hy
          rcases hy with (hy | hy) | rfl
          · exact H1.out y hy
          · exact L2.out y hy
          · exact HC.out), H3, hq.2.2.1, hq.2.2.2⟩
        case measure => simp [intOf]; omega
      | false =>
        have L2 := Lib.hid (behind_ge s2 hc)
        have HC := Lib.hid hc
        have hc3 : ¬ comp v.toList x.toList < 0 := by unfold ltS at hc; simpa using hc
        generalize comp v.toList x.toList = c at *
        have hc4 : decide (c < 0) = false := decide_eq_false hc3
        clear hc s2 eD eD2
        go_wp2
        go_region_held3 (fun W => W.cell? ⟨g, h, none⟩ = some (.string v) ∧ W.cell? ⟨g, a, none⟩ = some (.string x) ∧ RowS W g (A ++ [x] ++ V ++ C) ∧ Turn w W g) (first | exact keepR (by assumption) hbb | exact ⟨p1, p2, hR.drew, hT.drew⟩ | go_keep)
          (first | (go_at_call 39; refine (K.out _).mono ?_; rintro e' w' ⟨rfl, hbb⟩))
        rename_i hq
        clear p1 p2 hR hT
        go_wp2
        go_roundw
        case rel => exact ⟨i, h, V1, V2a, v :: V2b ++ V3, rfl, rfl, hi1, hh1, by omega, Lib.hid (by rw [HV.out]; simp), HI, Lib.hid (by have := HVA.out; omega), H1, Lib.hid (by
          intro y hy
          simp only [List.cons_append, List.mem_cons, List.mem_append] at hy
          rcases hy with rfl | hy | hy
          · exact HC.out
          · exact L2.out y hy
          · exact H3.out y hy), hq.2.2.1, hq.2.2.2⟩
        case measure => simp [intOf]; omega
    · have hV2 : V2 = [] := List.eq_nil_of_length_eq_zero (by have := HJ.out; omega)
      subst hV2
      have hij2 : i = j := by omega
      subst hij2
      have HM := Lib.hid (mg_one' (lt := ltS) (x := x) H1.out H3.out)
      have eV : V = V1 ++ V3 := by rw [HV.out]; simp
      have HR := Lib.hid (show RowS wr g (A ++ [x] ++ (V1 ++ V3) ++ C) by rw [← eV]; exact hR)
      have EV := Lib.hid eV
      have hT0 := Lib.hid hT
      have hi3 : (i : Int) ≤ 1000000 := by omega
      clear eV hR hT HV HJ
      rename World => w0
      go_wp2
      go_loopw [13] (fun sk wr => ∃ (k : Nat) (W1 W2 : List ByteArray), sk = .int .i64 (k : Int) ∧ a ≤ k ∧ k + 1 ≤ i ∧ RowKit.Hid (V1 = W1 ++ W2) ∧ RowKit.Hid (a + W1.length = k) ∧ RowS wr g (A ++ W1 ++ x :: W2 ++ V3 ++ C) ∧ Turn w wr g) (fun sk _ => i - (intOf sk).toNat)
      case atStart => exact ⟨a, [], V1, rfl, by omega, by omega, Lib.hid rfl, Lib.hid rfl, by simpa using HR.out, hT0.out⟩
      case round =>
        obtain ⟨k, W1, W2, rfl, hk1, hk2, HW, HK, hR, hT⟩ := hrel
        by_cases hlt : k + 1 < i
        · obtain ⟨y, W2, rfl⟩ : ∃ x r, W2 = x :: r := by
            have h1 := congrArg List.length HW.out
            rw [List.length_append] at h1
            have := HI.out; have := HK.out
            cases W2 with
            | nil => simp at h1; omega
            | cons x r => exact ⟨x, r, rfl⟩
          have hlt1 : (k : Int) < (i : Int) - 1 := by omega
          have eD : A ++ W1 ++ x :: (y :: W2) ++ V3 ++ C = (A ++ W1) ++ x :: ([] ++ y :: (W2 ++ V3 ++ C)) := by simp
          rw [eD] at hR
          have E1 : k = (A ++ W1).length := by have := HK.out; have := HA.out; simp; omega
          have E2 : k + 1 = (A ++ W1).length + 1 + ([] : List ByteArray).length := by simp; have := HK.out; have := HA.out; omega
          obtain ⟨c1, f1⟩ := hR.at_ (one_at E1)
          obtain ⟨c2, f2⟩ := hR.at_ (two_at E2)
          have b1 : (0 : Int) ≤ (k : Int) := by omega
          have b2 : (k : Int) < (N : Int) := by omega
          have b3 : (0 : Int) ≤ (k : Int) + 1 := by omega
          have b4 : (k : Int) + 1 < (N : Int) := by omega
          have u1 : IntKind.i64.wrap ((k : Int) + 1) = (k : Int) + 1 := IntWalk.i64_in _ (by omega)
          have u2 : ((k : Int) + 1).toNat = k + 1 := by omega
          have HR2 := Lib.hid (show RowS ((wr.setCell ⟨g, k, none⟩ (.string y)).setCell ⟨g, k + 1, none⟩ (.string x)).drew g ((A ++ W1) ++ y :: ([] ++ x :: (W2 ++ V3 ++ C))) by
            have h := ((hR.set (i := k) (by simp at E1 ⊢; omega) y).set (i := k + 1) (by simp at E1 ⊢; omega) x).drew
            rw [two_sets E1 E2] at h
            exact h)
          have HT2 := Lib.hid ((hT.set k (.string y)).set (k + 1) (.string x)).drew
          clear eD hR hT E1 E2
          go_wp2
          go_region
          generalize ((wr.setCell { block := g, off := k } (Value.string y)).setCell { block := g, off := k + 1 } (Value.string x)).drew = U at *
          clear c1 c2 f1 f2
          go_wp2
          go_roundw
          case rel => exact ⟨k + 1, W1 ++ [y], W2, by go_num, by omega, by omega, Lib.hid (by rw [HW.out]; simp), Lib.hid (by have := HK.out; simp; omega), by have h := HR2.out; simpa using h, HT2.out⟩
          case measure => simp [intOf]; omega
        · have hW2 : W2 = [] := List.eq_nil_of_length_eq_zero (by
            have h1 := congrArg List.length HW.out
            rw [List.length_append] at h1
            have := HI.out; have := HK.out; omega)
          have HR2 := Lib.hid (show RowS wr g (A ++ mg ltS [x] V ++ C) by
            rw [EV.out, HM.out, HW.out, hW2]
            rw [hW2] at hR
            simpa using hR)
          have hlt1 : ¬ (k : Int) < (i : Int) - 1 := by omega
          clear hW2 hR
          go_wp2
          refine bodyPost_ret (results_none rfl _ _ _) rfl ?_
          exact ⟨rfl, by have h := HR2.out; simpa using h, hT⟩

set_option maxRecDepth 100000 in
set_option maxHeartbeats 8000000 in
theorem symTwo_any (g cap N : Nat) (A U C : List ByteArray) (y : ByteArray) (a m : Nat) (w : World) (ha : a = A.length) (hm : m = A.length + U.length) (hu : 2 ≤ U.length) (hN : N = (A ++ U ++ [y] ++ C).length) (hN2 : N ≤ 1000000) (hs : Srt ltS U) (hsh : Sh (y :: U))
    (hrow : RowS w g (A ++ U ++ [y] ++ C)) :
    Calls Tryd.prog 108 #[.slice (some ⟨g, 0, none⟩) N cap, .int .i64 (a : Int), .int .i64 (m : Int), .int .i64 ((m : Int) + 1), cmpF] w fun e w' => e = .returned (.tuple #[]) ∧ RowS w' g (A ++ mg ltS U [y] ++ C) ∧ Turn w w' g := by
  have hl : a + U.length + 1 + C.length = N := by rw [hN, ha]; simp; omega
  have hm2 : m = a + U.length := by omega
  have hmN : (m : Int) + 1 ≤ (N : Int) := by omega
  have hNN : (N : Int) ≤ 1000000 := by omega
  have ham : (a : Int) + 2 ≤ (m : Int) := by omega
  have HA := Lib.hid ha
  have HB := Lib.hid hm2
  have HS := Lib.hid hs
  have HSH := Lib.hid hsh
  have h1 : (m : Int) + 1 - (m : Int) = 1 := by omega
  have h2 : ((m : Int) - (a : Int) == 1) = false := by simp only [beq_eq_false_iff_ne]; omega
  have h3 : ¬ (m : Int) - (a : Int) = 1 := by omega
  have HROW := Lib.hid hrow
  clear ha hm hm2 hl hN hs hsh hrow hu
  go_enter Tryd.func108, Tryd.ntmps108
  go_wp2
  go_loopw [14, 15, 16] (fun si sj _ wr => ∃ (i j : Nat) (U1 U2 U3 : List ByteArray), si = .int .i64 (i : Int) ∧ sj = .int .i64 (j : Int) ∧ a ≤ i ∧ i ≤ j ∧ j ≤ m ∧ RowKit.Hid (U = U1 ++ U2 ++ U3) ∧ RowKit.Hid (a + U1.length = i) ∧ RowKit.Hid (i + U2.length = j) ∧ RowKit.Hid (∀ z ∈ U1, ltS y z = false) ∧ RowKit.Hid (∀ z ∈ U3, ltS y z = true) ∧ RowS wr g (A ++ U ++ [y] ++ C) ∧ Turn w wr g) (fun i j _ _ => (intOf j).toNat - (intOf i).toNat)
  case atStart => exact ⟨a, m, [], U, [], rfl, rfl, by omega, by omega, by omega, Lib.hid (by simp), Lib.hid (by simp), Lib.hid (by have := HB.out; omega), Lib.hid (by simp), Lib.hid (by simp), HROW.out, Turn.refl⟩
  case round =>
    obtain ⟨i, j, U1, U2, U3, rfl, rfl, hi1, hij, hjb, HV, HI, HJ, H1, H3, hR, hT⟩ := hrel
    by_cases hlt : i < j
    · obtain ⟨hh1, hh2⟩ := half_nat i j hlt
      generalize hh : (i + j) / 2 = h at *
      obtain ⟨U2a, v, U2b, e, hva⟩ := mid_of U2 (h - i) (by have := HJ.out; omega)
      subst e
      have HH := Lib.hid hh
      have HVA := Lib.hid hva
      clear hh hva
      have hd : ((i : Int) + (j : Int)) / 2 = (h : Int) := by have := HH.out; omega
      have eD : A ++ U ++ [y] ++ C = (A ++ U1 ++ U2a) ++ v :: (U2b ++ U3 ++ [y] ++ C) := by rw [HV.out]; simp
      have eD2 : A ++ U ++ [y] ++ C = (A ++ U) ++ y :: C := by simp
      have p1 := (hR.at_ (k := h) (by rw [eD]; exact one_at (by have := HI.out; have := HVA.out; have := HA.out; simp; omega))).1
      have p2 := (hR.at_ (k := m) (by rw [eD2]; exact one_at (by have := HA.out; have := HB.out; simp; omega))).1
      have hvs : v.size ≤ 1000000 := HSH.out v (by rw [HV.out]; simp)
      have hys : y.size ≤ 1000000 := HSH.out y (by simp)
      have K := Lib.hid (fun W => sortCmp_any y v W hys hvs)
      have s2 := HS.out
      rw [HV.out] at s2
      have b1 : (0 : Int) ≤ (h : Int) := by omega
      have b2 : (h : Int) < (N : Int) := by omega
      have b3 : (m : Int) < (N : Int) := by omega
      cases hc : ltS y v with
      | false =>
        have L2 := Lib.hid (before_ge s2 hc)
        have HC := Lib.hid hc
        have hc3 : ¬ comp y.toList v.toList < 0 := by unfold ltS at hc; simpa using hc
        generalize comp y.toList v.toList = c at *
        have hc4 : decide (c < 0) = false := decide_eq_false hc3
        clear hc s2 eD eD2
        go_wp2
        go_region_held3 (fun W => W.cell? ⟨g, h, none⟩ = some (.string v) ∧ W.cell? ⟨g, m, none⟩ = some (.string y) ∧ RowS W g (A ++ U ++ [y] ++ C) ∧ Turn w W g) (first | exact keepR (by assumption) hbb | exact ⟨p1, p2, hR.drew, hT.drew⟩ | go_keep)
          (first | (go_at_call 39; refine (K.out _).mono ?_; rintro e' w' ⟨rfl, hbb⟩))
        rename_i hq
        clear p1 p2 hR hT
        go_wp2
        go_roundw
        case rel => exact ⟨h + 1, j, U1 ++ U2a ++ [v], U2b, U3, by go_num, rfl, by omega, by omega, hjb, Lib.hid (by rw [HV.out]; simp), Lib.hid (by have := HI.out; have := HVA.out; simp; omega), Lib.hid (by have := HJ.out; have := HVA.out; simp at *; omega), Lib.hid (by
          intro z hz
          simp only [List.mem_append, List.mem_singleton] at hz
          rcases hz with (hz | hz) | rfl
          · exact H1.out z hz
          · exact L2.out z hz
          · exact HC.out), H3, hq.2.2.1, hq.2.2.2⟩
        case measure => simp [intOf]; omega
      | true =>
        have L2 := Lib.hid (behind_lt s2 hc)
        have HC := Lib.hid hc
        have hc3 : comp y.toList v.toList < 0 := by unfold ltS at hc; simpa using hc
        generalize comp y.toList v.toList = c at *
        have hc4 : decide (c < 0) = true := decide_eq_true hc3
        clear hc s2 eD eD2
        go_wp2
        go_region_held3 (fun W => W.cell? ⟨g, h, none⟩ = some (.string v) ∧ W.cell? ⟨g, m, none⟩ = some (.string y) ∧ RowS W g (A ++ U ++ [y] ++ C) ∧ Turn w W g) (first | exact keepR (by assumption) hbb | exact ⟨p1, p2, hR.drew, hT.drew⟩ | go_keep)
          (first | (go_at_call 39; refine (K.out _).mono ?_; rintro e' w' ⟨rfl, hbb⟩))
        rename_i hq
        clear p1 p2 hR hT
        go_wp2
        go_roundw
        case rel => exact ⟨i, h, U1, U2a, v :: U2b ++ U3, rfl, rfl, hi1, hh1, by omega, Lib.hid (by rw [HV.out]; simp), HI, Lib.hid (by have := HVA.out; omega), H1, Lib.hid (by
          intro z hz
          simp only [List.cons_append, List.mem_cons, List.mem_append] at hz
          rcases hz with rfl | hz | hz
          · exact HC.out
          · exact L2.out z hz
          · exact H3.out z hz), hq.2.2.1, hq.2.2.2⟩
        case measure => simp [intOf]; omega
    · have hV2 : U2 = [] := List.eq_nil_of_length_eq_zero (by have := HJ.out; omega)
      subst hV2
      have hij2 : i = j := by omega
      subst hij2
      have HM := Lib.hid (mg_one (lt := ltS) (x := y) H1.out H3.out)
      have eV : U = U1 ++ U3 := by rw [HV.out]; simp
      have HR := Lib.hid (show RowS wr g (A ++ (U1 ++ U3) ++ [y] ++ C) by rw [← eV]; exact hR)
      have EV := Lib.hid eV
      have hT0 := Lib.hid hT
      have hi3 : (i : Int) ≤ 1000000 := by omega
      have hm3 : m = i + U3.length := by
        have t1 := HB.out
        have t2 := HI.out
        have t3 : U.length = U1.length + U3.length := by rw [eV, List.length_append]
        omega
      have HM3 := Lib.hid hm3
      clear eV hR hT HV HJ hm3
      rename World => w0
      go_wp2
      go_loopw [17] (fun sk wr => ∃ (k : Nat) (W1 W2 : List ByteArray), sk = .int .i64 (k : Int) ∧ i ≤ k ∧ k ≤ m ∧ RowKit.Hid (U3 = W1 ++ W2) ∧ RowKit.Hid (i + W1.length = k) ∧ RowS wr g (A ++ U1 ++ W1 ++ y :: W2 ++ C) ∧ Turn w wr g) (fun sk _ => (intOf sk).toNat)
      case atStart => exact ⟨m, U3, [], rfl, by omega, by omega, Lib.hid (by simp), Lib.hid (by have := HM3.out; omega), by have h := HR.out; simpa using h, hT0.out⟩
      case round =>
        obtain ⟨k, W1, W2, rfl, hk1, hk2, HW, HK, hR, hT⟩ := hrel
        by_cases hlt : i < k
        · obtain ⟨r, z, hz⟩ := last_of W1 (by have := HK.out; omega)
          subst hz
          obtain ⟨q, hq⟩ : ∃ q, k = q + 1 := ⟨k - 1, by omega⟩
          subst hq
          have hlt1 : (i : Int) < (q : Int) + 1 := by omega
          have eD : A ++ U1 ++ (r ++ [z]) ++ y :: W2 ++ C = (A ++ U1 ++ r) ++ z :: ([] ++ y :: (W2 ++ C)) := by simp
          rw [eD] at hR
          have E1 : q = (A ++ U1 ++ r).length := by have := HK.out; have := HA.out; have := HI.out; simp at *; omega
          have E2 : q + 1 = (A ++ U1 ++ r).length + 1 + ([] : List ByteArray).length := by rw [← E1]; rfl
          obtain ⟨c1, f1⟩ := hR.at_ (one_at E1)
          obtain ⟨c2, f2⟩ := hR.at_ (two_at E2)
          have b1 : (0 : Int) ≤ (q : Int) := by omega
          have b2 : (q : Int) < (N : Int) := by omega
          have b3 : (0 : Int) ≤ (q : Int) + 1 := by omega
          have b4 : (q : Int) + 1 < (N : Int) := by omega
          have u1 : IntKind.i64.wrap (q : Int) = (q : Int) := IntWalk.i64_in _ (by omega)
          have u2 : ((q : Int) + 1).toNat = q + 1 := by omega
          have u3 : IntKind.i64.wrap ((q : Int) + 1 - 1) = (q : Int) := by rw [IntWalk.i64_in _ (by omega)]; omega
          have HR2 := Lib.hid (show RowS ((wr.setCell ⟨g, q + 1, none⟩ (.string z)).setCell ⟨g, q, none⟩ (.string y)).drew g ((A ++ U1 ++ r) ++ y :: ([] ++ z :: (W2 ++ C))) by
            have h := ((hR.set (i := q + 1) (by simp at E1 ⊢; omega) z).set (i := q) (by simp at E1 ⊢; omega) y).drew
            rw [two_sets' E1 E2] at h
            exact h)
          have HT2 := Lib.hid ((hT.set (q + 1) (.string z)).set q (.string y)).drew
          clear eD hR hT E1 E2
          go_wp2
          go_region
          generalize ((wr.setCell { block := g, off := q + 1 } (Value.string z)).setCell { block := g, off := q } (Value.string y)).drew = V at *
          clear c1 c2 f1 f2
          go_wp2
          go_roundw
          case rel => exact ⟨q, r, z :: W2, by go_num, by omega, by omega, Lib.hid (by rw [HW.out]; simp), Lib.hid (by have := HK.out; simp at this; omega), by have h := HR2.out; simpa using h, HT2.out⟩
          case measure => simp [intOf]
        · have hW1 : W1 = [] := List.eq_nil_of_length_eq_zero (by have := HK.out; omega)
          have HR2 := Lib.hid (show RowS wr g (A ++ mg ltS U [y] ++ C) by
            rw [EV.out, HM.out, HW.out, hW1]
            rw [hW1] at hR
            simpa using hR)
          have hlt1 : ¬ (i : Int) < (k : Int) := by omega
          clear hW1 hR
          go_wp2
          refine bodyPost_ret (results_none rfl _ _ _) rfl ?_
          exact ⟨rfl, by have h := HR2.out; simpa using h, hT⟩
end Go.Proofs.YtinidiiachedbaaDoor
