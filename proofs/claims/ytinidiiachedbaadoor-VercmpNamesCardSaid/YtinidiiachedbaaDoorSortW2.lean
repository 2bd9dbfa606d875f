/- Walks: Go's stable sort at texts: two parts turned about. -/
import Derived.Test.YtinidiiachedbaaDoorSortW
namespace Go.Proofs.YtinidiiachedbaaDoor
open Go.RowKit Go.Shelf

theorem split_at {α : Type} (l : List α) (k : Nat) (h : k ≤ l.length) : ∃ a b, l = a ++ b ∧ a.length = k ∧ b.length = l.length - k :=
  ⟨l.take k, l.drop k, (List.take_append_drop k l).symm, by rw [List.length_take]; omega, by rw [List.length_drop]⟩
set_option maxRecDepth 100000 in
set_option maxHeartbeats 4000000 in
theorem rotate_any (g cap N : Nat) (f : Value) (A U V C : List ByteArray) (a m b : Nat) (w : World) (ha : a = A.length) (hm : m = A.length + U.length) (hb : b = A.length + U.length + V.length) (hu : 0 < U.length) (hv : 0 < V.length) (hN : N = (A ++ U ++ V ++ C).length) (hN2 : N ≤ 1000000)
    (hrow : RowS w g (A ++ U ++ V ++ C)) :
    Calls Tryd.prog 133 #[.slice (some ⟨g, 0, none⟩) N cap, .int .i64 (a : Int), .int .i64 (m : Int), .int .i64 (b : Int), f] w fun e w' => e = .returned (.tuple #[]) ∧ RowS w' g (A ++ V ++ U ++ C) ∧ Turn w w' g := by
  have hl : A.length + U.length + V.length + C.length = N := by rw [hN]; simp; omega
  have SW := Lib.hid (fun (W : World) (A X M Y C : List ByteArray) (p q : Int) (n : Nat) (h1 : X.length = n ∧ Y.length = n) (h2 : p = (A.length : Int)) (h3 : q = ((A.length + X.length + M.length : Nat) : Int)) (h4 : N = (A ++ X ++ M ++ Y ++ C).length) (hR : RowS W g (A ++ X ++ M ++ Y ++ C)) =>
    (show Calls Tryd.prog 152 #[.slice (some ⟨g, 0, none⟩) N cap, .int .i64 p, .int .i64 q, .int .i64 (n : Int), f] W fun e w' => e = .returned (.tuple #[]) ∧ RowS w' g (A ++ Y ++ M ++ X ++ C) ∧ Turn W w' g from by
      subst h2; subst h3; exact swapRange_any g cap N f A X M Y C _ _ n W h1 rfl rfl h4 hN2 hR))
  have ua : (a : Int) ≤ 1000000 := by omega
  have um : (m : Int) ≤ 1000000 := by omega
  have ub : (b : Int) ≤ 1000000 := by omega
  have e1 : (m : Int) - (a : Int) = (U.length : Int) := by omega
  have e2 : (b : Int) - (m : Int) = (V.length : Int) := by omega
  have E1 := Lib.hid e1
  have E2 := Lib.hid e2
  have HM := Lib.hid hm
  have HL := Lib.hid hl
  have hma : (a : Int) ≤ (m : Int) := by omega
  have hbm : (m : Int) ≤ (b : Int) := by omega
  clear e1 e2 hm hb hl ha hN
  go_enter Tryd.func133, Tryd.ntmps133
  go_wp2
  rw [E1.out, E2.out]
  go_loopw [10, 11] (fun si sj wr => ∃ (i j : Nat) (L X Y R : List ByteArray), si = .int .i64 (i : Int) ∧ sj = .int .i64 (j : Int) ∧ 0 < i ∧ 0 < j ∧ RowKit.Hid (X.length = i) ∧ RowKit.Hid (Y.length = j) ∧ RowKit.Hid (L ++ Y ++ X ++ R = V ++ U) ∧ RowKit.Hid (A.length + L.length + i = m) ∧ RowKit.Hid (m + j + R.length + C.length = N) ∧ RowS wr g (A ++ L ++ X ++ Y ++ R ++ C) ∧ Turn w wr g) (fun i j _ => (intOf i).toNat + (intOf j).toNat)
  case atStart => exact ⟨U.length, V.length, [], U, V, [], rfl, rfl, hu, hv, Lib.hid rfl, Lib.hid rfl, Lib.hid (by simp), Lib.hid (by have := HM.out; simp; omega), Lib.hid (by have := HL.out; have := HM.out; simp; omega), by simpa using hrow, Turn.refl⟩
  case round =>
    obtain ⟨i, j, L, X, Y, R, rfl, rfl, hx, hy, HX, HY, hV, hM, hNN, hR, hT⟩ := hrel
    have lx : (i : Int) ≤ 1000000 := by have := hNN.out; have := hM.out; omega
    have ly : (j : Int) ≤ 1000000 := by have := hNN.out; omega
    have hmx : (i : Int) ≤ (m : Int) := by have := hM.out; omega
    rcases Nat.lt_trichotomy i j with hc | hc | hc
    · obtain ⟨Y1, Y2, e, h1, h2⟩ := split_at Y (j - i) (by have := HY.out; omega)
      have h3 : Y2.length = i := by have := HY.out; omega
      have hc1 : (i : Int) < (j : Int) := by omega
      have hc2 : ((i : Int) == (j : Int)) = false := by simp only [beq_eq_false_iff_ne]; omega
      have hc3 : ((i : Int) != (j : Int)) = true := by simp only [bne_iff_ne]; omega
      have hR2 : RowS wr g ((A ++ L) ++ X ++ Y1 ++ Y2 ++ (R ++ C)) := by rw [e] at hR; simpa using hR
      have K := Lib.hid (SW.out wr (A ++ L) X Y1 Y2 (R ++ C) ((m : Int) - (i : Int)) ((m : Int) + (j : Int) - (i : Int)) i ⟨HX.out, h3⟩ (by have := hM.out; simp; omega) (by have := hM.out; have := HX.out; simp; omega) (by have := hNN.out; have := hM.out; have := HX.out; simp at this ⊢; omega) hR2)
      have g1 : (0 : Int) < (j : Int) - (i : Int) := by omega
      have H1 := Lib.hid h1
      have H3 := Lib.hid h3
      have HE := Lib.hid e
      have hd : (j : Int) - (i : Int) = ((j - i : Nat) : Int) := by omega
      have Hd := Lib.hid hd
      have hji : 0 < j - i := by omega
      clear hR hR2 h1 h2 h3 hd e
      go_wp2_with fail
      go_at_call 152
      refine K.out.mono ?_
      rintro e w1 ⟨rfl, hr, ht⟩
      go_wp2
      rw [Hd.out]
      go_roundw
      case rel => exact ⟨i, j - i, L, Y2, Y1, X ++ R, rfl, rfl, hx, hji, H3, H1, Lib.hid (by rw [← hV.out, HE.out]; simp), hM, Lib.hid (by have := hNN.out; have := HX.out; simp; omega), by simpa using hr, hT.trans ht⟩
      case measure => simp [intOf]; omega
    · have hc2 : (i : Int) = (j : Int) := by omega
      have K := Lib.hid (SW.out wr (A ++ L) X [] Y (R ++ C) ((m : Int) - (i : Int)) (m : Int) i ⟨HX.out, by rw [HY.out, hc]⟩ (by have := hM.out; simp; omega) (by have := hM.out; have := HX.out; simp; omega) (by have := hNN.out; have := hM.out; have := HX.out; have := HY.out; simp at this ⊢; omega) (by simpa using hR))
      subst hc
      clear hR hc2
      go_wp2_with fail
      go_at_call 152
      refine K.out.mono ?_
      rintro e w1 ⟨rfl, hr, ht⟩
      have hr2 := Lib.hid (show RowS w1 g (A ++ V ++ U ++ C) by
        have h := hV.out
        have e : A ++ L ++ Y ++ [] ++ X ++ (R ++ C) = A ++ (L ++ Y ++ X ++ R) ++ C := by simp
        rw [e, h] at hr
        simpa using hr)
      clear hr
      go_wp2
      go_end0
      exact ⟨rfl, hr2.out, hT.trans ht⟩
    · obtain ⟨X1, X2, e, h1, h2⟩ := split_at X j (by have := HX.out; omega)
      have h3 : X2.length = i - j := by have := HX.out; omega
      have hc1 : (j : Int) < (i : Int) := by omega
      have hc2 : ((i : Int) == (j : Int)) = false := by simp only [beq_eq_false_iff_ne]; omega
      have hc3 : ((i : Int) != (j : Int)) = true := by simp only [bne_iff_ne]; omega
      have hR2 : RowS wr g ((A ++ L) ++ X1 ++ X2 ++ Y ++ (R ++ C)) := by rw [e] at hR; simpa using hR
      have K := Lib.hid (SW.out wr (A ++ L) X1 X2 Y (R ++ C) ((m : Int) - (i : Int)) (m : Int) j ⟨h1, HY.out⟩ (by have := hM.out; simp; omega) (by have := hM.out; simp; omega) (by have := hNN.out; have := hM.out; have := HY.out; simp at this ⊢; omega) hR2)
      have g1 : (0 : Int) < (i : Int) - (j : Int) := by omega
      have hd : (i : Int) - (j : Int) = ((i - j : Nat) : Int) := by omega
      have Hd := Lib.hid hd
      have H1 := Lib.hid h1
      have H3 := Lib.hid h3
      have HE := Lib.hid e
      have hij : 0 < i - j := by omega
      clear hR hR2 h1 h2 h3 hd e
      go_wp2_with fail
      go_at_call 152
      refine K.out.mono ?_
      rintro e w1 ⟨rfl, hr, ht⟩
      go_wp2
      rw [Hd.out]
      go_roundw
      case rel => exact ⟨i - j, j, L ++ Y, X2, X1, R, rfl, rfl, hij, hy, H3, H1, Lib.hid (by rw [← hV.out, HE.out]; simp), Lib.hid (by have := hM.out; have := HY.out; simp; omega), hNN, by simpa using hr, hT.trans ht⟩
      case measure => simp [intOf]; omega
end Go.Proofs.YtinidiiachedbaaDoor
