/- Walks: Go's stable sort at texts: merging in place, any two parts; the whole sort. -/
import Derived.Test.YtinidiiachedbaaDoorSortW5
namespace Go.Proofs.YtinidiiachedbaaDoor
open Go.RowKit Go.Shelf

theorem one_of {α : Type} (l : List α) (h : l.length = 1) : ∃ x, l = [x] := by
  cases l with
  | nil => simp at h
  | cons x r => cases r with
    | nil => exact ⟨x, rfl⟩
    | cons y r => simp at h
theorem symMerge_any (g cap N : Nat) (hN2 : N ≤ 1000000) : ∀ (n : Nat) (A U V C : List ByteArray) (a m b : Nat) (W : World), U.length + V.length ≤ n → a = A.length → m = A.length + U.length → b = A.length + U.length + V.length → 0 < U.length → 0 < V.length → N = (A ++ U ++ V ++ C).length →
    Srt ltS U → Srt ltS V → Sh (U ++ V) → RowS W g (A ++ U ++ V ++ C) → SymC g cap N A U V C a m b W := by
  intro n
  induction n with
  | zero => intro A U V C a m b W h0 _ _ _ hu; omega
  | succ n ih =>
    intro A U V C a m b W h0 ha hm hb hu hv hN hsU hsV hsh hrow
    by_cases h1 : U.length = 1
    · obtain ⟨x, rfl⟩ := one_of U h1
      have h := symOne_any g cap N A V C x a b W ha (by simpa using hb) hN hN2 hsV (by simpa using hsh) hrow
      have e : m = a + 1 := by simp at hm; omega
      subst e
      unfold SymC
      rw [Int.natCast_add]
      exact h
    by_cases h2 : V.length = 1
    · obtain ⟨y, rfl⟩ := one_of V h2
      have h := symTwo_any g cap N A U C y a m W ha hm (by omega) hN hN2 hsU (by intro x hx; exact hsh x (by simp at hx ⊢; rcases hx with h | h <;> simp [h])) hrow
      have e : b = m + 1 := by simp at hb; omega
      subst e
      unfold SymC
      rw [Int.natCast_add]
      exact h
    exact symGen_any g cap N A U V C a m b W ha hm hb (by omega) (by omega) hN hN2 hsU hsV hsh hrow fun A' U' V' C' a' m' b' W' hl => ih A' U' V' C' a' m' b' W' (by omega)

theorem sh_part {A B : List ByteArray} (h : Sh (A ++ B)) : Sh A ∧ Sh B := ⟨fun x hx => h x (List.mem_append_left _ hx), fun x hx => h x (List.mem_append_right _ hx)⟩
theorem sh_rs {A : List ByteArray} (h : Sh A) : Sh (rs ltS A) := fun x hx => h x ((rs_perm A).mem_iff.1 hx)
theorem sh_app {A B : List ByteArray} (h : Sh A) (k : Sh B) : Sh (A ++ B) := fun x hx => (List.mem_append.1 hx).elim (h x) (k x)
theorem full_len {α : Type} {b : Nat} : ∀ {R : List (List α)}, (∀ x ∈ R, x.length = b) → R.flatten.length = R.length * b
  | [], _ => by simp
  | x :: R, h => by simp [h x (by simp), full_len (R := R) (fun y hy => h y (by simp [hy])), Nat.succ_mul]; omega
theorem all_snoc {α : Type} {b : Nat} {R : List (List α)} {S : List α} (h : ∀ x ∈ R, x.length = b) (k : S.length = b) : ∀ x ∈ R ++ [S], x.length = b := by
  intro x hx
  rcases List.mem_append.1 hx with e | e
  · exact h x e
  · simp at e; rw [e]; exact k
abbrev rows (R : List (List ByteArray)) : List ByteArray := (R.map (rs ltS)).flatten
theorem rows_len (R : List (List ByteArray)) : (rows R).length = R.flatten.length := flat_rs_len R
theorem rows_app (R Q : List (List ByteArray)) : rows (R ++ Q) = rows R ++ rows Q := by simp [rows]
theorem rows_one (c : List ByteArray) : rows [c] = rs ltS c := by simp [rows]
set_option maxRecDepth 100000 in
set_option maxHeartbeats 8000000 in
theorem stable_any (g cap N : Nat) (D : List ByteArray) (w : World) (hN : N = D.length) (hN2 : N ≤ 1000000) (hsh : Sh D) (hrow : RowS w g D) :
    Calls Tryd.prog 70 #[.slice (some ⟨g, 0, none⟩) N cap, .int .i64 (N : Int), cmpF] w fun e w' => e = .returned (.tuple #[]) ∧ RowS w' g (rs ltS D) ∧ Turn w w' g := by
  have HN := Lib.hid hN
  have HSH := Lib.hid hsh
  have HROW := Lib.hid hrow
  have q1 : (N : Int) ≤ 1000000 := by omega
  clear hN hsh hrow
  go_enter Tryd.func70, Tryd.ntmps70
  go_wp2
  go_loopw [7, 8] (fun sa sb wr => ∃ (k j : Nat) (R : List (List ByteArray)) (T : List ByteArray), sa = .int .i64 (k : Int) ∧ sb = .int .i64 (j : Int) ∧ RowKit.Hid (j = k + 20) ∧ k ≤ N ∧ j ≤ N + 20 ∧ RowKit.Hid (D = R.flatten ++ T) ∧ RowKit.Hid (∀ x ∈ R, x.length = 20) ∧ RowKit.Hid (R.flatten.length = k) ∧ RowS wr g (rows R ++ T) ∧ Turn w wr g) (fun a _ _ => N - (intOf a).toNat)
  case atStart => exact ⟨0, 20, [], D, rfl, rfl, Lib.hid rfl, by omega, by omega, Lib.hid (by simp), Lib.hid (by simp), Lib.hid (by simp), by simpa [rows] using HROW.out, Turn.refl⟩
  case round =>
    obtain ⟨k, j, R, T, rfl, rfl, hj, hk, hjN, HD, HR, HK, hRow, hT⟩ := hrel
    have hlen : k + T.length = N := by have h := congrArg List.length HD.out; have := HN.out; have := HK.out; simp only [List.length_append] at h; omega
    by_cases hlt : j ≤ N
    · obtain ⟨S, T', e, hS, hT'⟩ := split_at T 20 (by have := hj.out; omega)
      subst e
      have hshS : Sh S := by have h := HSH.out; rw [HD.out] at h; exact (sh_part (sh_part h).2).1
      have I := Lib.hid (fun W (hW : RowS W g (rows R ++ (S ++ T'))) => insort_any g cap N (rows R) S T' k j W (by rw [rows_len]; exact HK.out.symm) (by rw [rows_len, HK.out, hS]; exact hj.out) (by simp only [List.length_append] at hlen ⊢; rw [rows_len, HK.out]; omega) hN2 (by omega) hshS (by rw [List.append_assoc]; exact hW))
      have HS := Lib.hid hS
      have HRow := Lib.hid hRow
      have HT := Lib.hid hT
      have HHS := Lib.hid hshS
      clear hS hT' hshS hRow hT hlen
      have hlt2 : (j : Int) ≤ (N : Int) := by omega
      go_wp2_with fail
      go_at_call 107
      refine (I.out _ HRow.out).mono ?_
      rintro e w1 ⟨rfl, hr1, ht1⟩
      have R1 := Lib.hid hr1
      have T1 := Lib.hid (HT.out.trans ht1)
      clear hr1 ht1
      go_wp2
      go_roundw
      case rel => exact ⟨j, j + 20, R ++ [S], T', rfl, by go_num, Lib.hid rfl, hlt, by omega, Lib.hid (by rw [HD.out]; simp), Lib.hid (all_snoc HR.out HS.out), Lib.hid (by rw [List.flatten_append, List.length_append, HK.out]; simp; have := HS.out; have := hj.out; omega), by rw [rows_app, rows_one]; exact R1.out, T1.out⟩
      case measure => have := hj.out; simp [intOf]; omega
    · have hlt2 : ¬ (j : Int) ≤ (N : Int) := by omega
      obtain ⟨R0, L⟩ : ∃ R0, RowKit.Hid (D = R0.flatten ∧ Ch 20 R0 ∧ ∀ W, RowS W g (rows R ++ T) → Calls Tryd.prog 107 #[.slice (some ⟨g, 0, none⟩) N cap, .int .i64 (k : Int), .int .i64 (N : Int), cmpF] W fun e w' => e = .returned (.tuple #[]) ∧ RowS w' g (rows R0) ∧ Turn W w' g) := by
        by_cases h0 : T.length = 0
        · have e := List.eq_nil_of_length_eq_zero h0
          subst e
          have e : k = N := by simpa using hlen
          subst e
          exact ⟨R, Lib.hid ⟨by rw [HD.out]; simp, ch_full HR.out, fun W hW => (insort_none g cap k k W hN2).mono fun e w' h => ⟨h.1, by rw [← h.2]; simpa using hW, by rw [← h.2]; exact Turn.refl⟩⟩⟩
        · have hshS : Sh T := by have h := HSH.out; rw [HD.out] at h; exact (sh_part h).2
          refine ⟨R ++ [T], Lib.hid ⟨by rw [HD.out]; simp, ch_snoc HR.out (by omega) (by have := hj.out; omega), fun W hW => (insort_any g cap N (rows R) T [] k N W (by rw [rows_len]; exact HK.out.symm) (by rw [rows_len, HK.out]; omega) (by simp only [List.length_append]; rw [rows_len, HK.out]; simp; omega) hN2 (by omega) hshS (by simpa using hW)).mono fun e w' h => ⟨h.1, by rw [rows_app, rows_one]; have := h.2.1; simpa using this, h.2.2⟩⟩⟩
      have HRow := Lib.hid hRow
      have HT := Lib.hid hT
      clear hRow hT hlen HD HR HK
      go_wp2_with fail
      go_at_call 107
      refine (L.out.2.2 _ HRow.out).mono ?_
      rintro e w1 ⟨rfl, hr1, ht1⟩
      have R1 := Lib.hid hr1
      have T1 := Lib.hid (HT.out.trans ht1)
      clear hr1 ht1 HRow HT
      go_wp2
      go_loopw [6, 7, 8, 9] (fun sB _ _ _ wr => ∃ (B : Nat) (R : List (List ByteArray)), sB = .int .i64 (B : Int) ∧ 20 ≤ B ∧ B ≤ 2 * N + 20 ∧ RowKit.Hid (D = R.flatten) ∧ RowKit.Hid (Ch B R) ∧ RowS wr g (rows R) ∧ Turn w wr g) (fun B _ _ _ _ => 2 * N + 20 - (intOf B).toNat)
      case atStart => exact ⟨20, R0, rfl, by omega, by omega, Lib.hid L.out.1, Lib.hid L.out.2.1, R1.out, T1.out⟩
      case round =>
        clear L R1 T1 hj hk hjN hlt hlt2
        rename World => wo
        obtain ⟨B, R, rfl, hB, hB2, HD, HCh, hRow, hT⟩ := hrel
        have HRow := Lib.hid hRow
        have HT := Lib.hid hT
        clear hRow hT
        by_cases hlt : B < N
        · have hlt2 : (B : Int) < (N : Int) := by omega
          go_wp2
          go_loopw [7, 8] (fun sa sb wi => ∃ (k j : Nat) (R1 R2 : List (List ByteArray)), sa = .int .i64 (k : Int) ∧ sb = .int .i64 (j : Int) ∧ RowKit.Hid (j = k + 2 * B) ∧ k ≤ N ∧ j ≤ 3 * N ∧ RowKit.Hid (D = R1.flatten ++ R2.flatten) ∧ RowKit.Hid (∀ x ∈ R1, x.length = 2 * B) ∧ RowKit.Hid (Ch B R2) ∧ RowKit.Hid (R1.flatten.length = k) ∧ RowS wi g (rows R1 ++ rows R2) ∧ Turn w wi g) (fun a _ _ => N - (intOf a).toNat)
          case atStart => exact ⟨0, 2 * B, [], R, rfl, by go_num, Lib.hid (by omega), by omega, by omega, Lib.hid (by simpa using HD.out), Lib.hid (by simp), HCh, Lib.hid (by simp), by simpa [rows] using HRow.out, HT.out⟩
          case round =>
            clear HRow HT HD HCh
            rename World => wi
            obtain ⟨k, j, Q1, Q2, rfl, rfl, hj, hk, hj3, HD, HQ1, HCh, HK, hRow, hT⟩ := hrel
            have hlen : RowKit.Hid (k + Q2.flatten.length = N) := Lib.hid (by have h := congrArg List.length HD.out; have := HN.out; have := HK.out; simp only [List.length_append] at h; omega)
            obtain ⟨m, hm⟩ : ∃ m, m = k + B := ⟨_, rfl⟩
            have hmi : (k : Int) + (B : Int) = (m : Int) := by omega
            have HM := Lib.hid hm
            have hm1 : m ≤ 2 * N := by omega
            clear hm
            have HRow := Lib.hid hRow
            have HT := Lib.hid hT
            clear hRow hT
            by_cases hle : j ≤ N
            · have hle2 : (j : Int) ≤ (N : Int) := by omega
              obtain ⟨c1, c2, Q3, e, hc1, hc2, hQ3⟩ := ch_two (by omega) HCh.out (by have := hj.out; have := hlen.out; omega)
              subst e
              have hsh : Sh (c1 ++ c2) := by
                intro x hx
                refine HSH.out x ?_
                rw [HD.out]
                simp at hx ⊢
                rcases hx with h | h <;> simp [h]
              have M := Lib.hid (fun W (hW : RowS W g (rows Q1 ++ rs ltS c1 ++ rs ltS c2 ++ rows Q3)) => symMerge_any g cap N hN2 _ (rows Q1) (rs ltS c1) (rs ltS c2) (rows Q3) k m j W (Nat.le_refl _) (by rw [rows_len]; exact HK.out.symm) (by rw [rows_len, HK.out, rs_len, hc1]; exact HM.out) (by rw [rows_len, HK.out, rs_len, rs_len, hc1, hc2]; have := hj.out; omega) (by rw [rs_len]; omega) (by rw [rs_len]; omega)
                (by have := hlen.out; simp only [List.length_append, List.flatten_cons] at this ⊢; rw [rows_len, rows_len, rs_len, rs_len, HK.out]; omega) (rs_srt ordS _) (rs_srt ordS _) (sh_app (sh_rs (sh_part hsh).1) (sh_rs (sh_part hsh).2)) hW)
              have HC := Lib.hid (show (c1 ++ c2).length = 2 * B by simp; omega)
              have HQ3 := Lib.hid hQ3
              clear hc1 hc2 hQ3 hsh
              go_wp2_with fail
              go_at_call 108
              refine (M.out _ (by have h := HRow.out; simpa [rows] using h)).mono ?_
              rintro e w1 ⟨rfl, hr1, ht1⟩
              have R1 := Lib.hid hr1
              have T1 := Lib.hid (HT.out.trans ht1)
              clear hr1 ht1 HRow HT
              go_wp2
              go_roundw
              case rel => exact ⟨j, j + 2 * B, Q1 ++ [c1 ++ c2], Q3, rfl, by go_num, Lib.hid rfl, hle, by omega, Lib.hid (by rw [HD.out]; simp), Lib.hid (all_snoc HQ1.out HC.out), HQ3, Lib.hid (by rw [List.flatten_append, List.length_append, HK.out]; have hc := HC.out; have hj' := hj.out; simp at hc ⊢; omega), by rw [rows_app, rows_one, rs_append ordS]; exact R1.out, T1.out⟩
              case measure => have := hj.out; simp [intOf]; omega
            · have hle2 : ¬ (j : Int) ≤ (N : Int) := by omega
              rcases ch_rest (by omega) HCh.out (by have := hj.out; have := hlen.out; omega) with hcase | ⟨c1, c2, e, hc1, h20, hc2⟩
              · have hQ : RowKit.Hid (D = (Q1 ++ Q2).flatten ∧ Ch (2 * B) (Q1 ++ Q2) ∧ Q2.flatten.length ≤ B) := Lib.hid (by
                  refine ⟨by rw [HD.out]; simp, ?_, ?_⟩
                  · rcases hcase with rfl | ⟨c, rfl, h1, h2⟩
                    · simpa using ch_full HQ1.out
                    · exact ch_snoc HQ1.out h1 (by omega)
                  · rcases hcase with rfl | ⟨c, rfl, h1, h2⟩
                    · simp
                    · simpa using h2)
                have hmN : ¬ (m : Int) < (N : Int) := by have := hQ.out.2.2; have := hlen.out; have := HM.out; omega
                clear hcase
                go_wp2_with fail
                go_roundw
                case rel => exact ⟨2 * B, Q1 ++ Q2, by go_num, by omega, by omega, Lib.hid hQ.out.1, Lib.hid hQ.out.2.1, by rw [rows_app]; exact HRow.out, HT.out⟩
                case measure => simp [intOf]; omega
              · subst e
                have hlen2 := hlen.out
                simp at hlen2
                have hsh : Sh (c1 ++ c2) := by
                  intro x hx
                  refine HSH.out x ?_
                  rw [HD.out]
                  simp at hx ⊢
                  rcases hx with h | h <;> simp [h]
                have hmN : (m : Int) < (N : Int) := by have := HM.out; omega
                have M := Lib.hid (fun W (hW : RowS W g (rows Q1 ++ rs ltS c1 ++ rs ltS c2 ++ [])) => symMerge_any g cap N hN2 _ (rows Q1) (rs ltS c1) (rs ltS c2) [] k m N W (Nat.le_refl _) (by rw [rows_len]; exact HK.out.symm) (by rw [rows_len, HK.out, rs_len, hc1]; exact HM.out) (by rw [rows_len, HK.out, rs_len, rs_len]; omega) (by rw [rs_len]; omega) (by rw [rs_len]; omega)
                  (by simp only [List.length_append, List.length_nil]; rw [rows_len, rs_len, rs_len, HK.out]; omega) (rs_srt ordS _) (rs_srt ordS _) (sh_app (sh_rs (sh_part hsh).1) (sh_rs (sh_part hsh).2)) hW)
                have HC := Lib.hid (show 0 < (c1 ++ c2).length ∧ (c1 ++ c2).length ≤ 2 * B by simp; omega)
                clear hlen2 hsh hc1 h20 hc2
                go_wp2_with fail
                go_at_call 108
                refine (M.out _ (by have h := HRow.out; simpa [rows] using h)).mono ?_
                rintro e w1 ⟨rfl, hr1, ht1⟩
                have R1 := Lib.hid hr1
                have T1 := Lib.hid (HT.out.trans ht1)
                clear hr1 ht1 HRow HT
                go_wp2
                go_roundw
                case rel => exact ⟨2 * B, Q1 ++ [c1 ++ c2], by go_num, by omega, by omega, Lib.hid (by rw [HD.out]; simp), Lib.hid (ch_snoc HQ1.out HC.out.1 HC.out.2), by rw [rows_app, rows_one, rs_append ordS]; have := R1.out; simpa using this, T1.out⟩
                case measure => simp [intOf]; omega
        · have hlt2 : ¬ (B : Int) < (N : Int) := by omega
          have hlen : RowKit.Hid (R.flatten.length = N) := Lib.hid (by rw [← HD.out]; exact HN.out.symm)
          go_wp2
          go_end0
          refine ⟨rfl, ?_, HT.out⟩
          obtain ⟨c, h1, h2⟩ := ch_small (lt := ltS) HCh.out (by have := hlen.out; omega) (by omega)
          have h := HRow.out
          rw [rows, h2, ← h1, ← HD.out] at h
          exact h
end Go.Proofs.YtinidiiachedbaaDoor
