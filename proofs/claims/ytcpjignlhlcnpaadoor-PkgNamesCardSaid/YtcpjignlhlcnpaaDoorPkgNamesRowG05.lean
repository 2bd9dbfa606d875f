/- VmCmp -/
import Derived.Test.YtcpjignlhlcnpaaDoorPkgNamesRowG04
import Derived.StillTailTactics
set_option linter.unusedSimpArgs false
set_option linter.unusedVariables false
/- Walks: how two parts compare, and how two versions do. -/


namespace Go.Proofs.YtcpjignlhlcnpaaDoor
open Go.RowKit

def or3 (a b c : Int) : Int := if a ≠ 0 then a else if b ≠ 0 then b else c
set_option maxHeartbeats 1000000 in
theorem or_any (a b c : Int) (g : Nat) (w : World) (h0 : w.cell? ⟨g, 0, none⟩ = some (.int .i64 a)) (h1 : w.cell? ⟨g, 1, none⟩ = some (.int .i64 b)) (h2 : w.cell? ⟨g, 2, none⟩ = some (.int .i64 c)) :
    Calls Tryd.prog 72 #[.slice (some ⟨g, 0, none⟩) 3 3] w fun e w' => e = .returned (.int .i64 (or3 a b c)) ∧ w = w' := by
  go_enter Tryd.func72, Tryd.ntmps72
  go_wp2
  go_loop [8] (fun e => ∃ k : Nat, k ≤ 3 ∧ e = .int .i64 (k : Int) ∧ (1 ≤ k → a = 0) ∧ (2 ≤ k → b = 0) ∧ (3 ≤ k → c = 0)) (fun e => 3 - (intOf e).toNat)
  case atStart => exact ⟨0, by omega, rfl, fun h => absurd h (by decide), fun h => absurd h (by decide), fun h => absurd h (by decide)⟩
  case round =>
    obtain ⟨k, hk, rfl, e0, e1, e2⟩ := hrel
    rcases (show k = 0 ∨ k = 1 ∨ k = 2 ∨ k = 3 by omega) with rfl | rfl | rfl | rfl
    · by_cases ha : a = 0
      · subst ha
        go_wp2
        go_round
        case rel => exact ⟨1, by omega, by go_num, fun _ => trivial, fun h => absurd h (by decide), fun h => absurd h (by decide)⟩
        case measure => simp [intOf]
      · go_wp2
        go_ret
        exact ⟨by simp [or3, ha], rfl⟩
    · obtain rfl := e0 (by omega)
      by_cases hb : b = 0
      · subst hb
        go_wp2
        go_round
        case rel => exact ⟨2, by omega, by go_num, fun _ => trivial, fun _ => trivial, fun h => absurd h (by decide)⟩
        case measure => simp [intOf]
      · go_wp2
        go_ret
        exact ⟨by simp [or3, hb], rfl⟩
    · obtain rfl := e0 (by omega)
      obtain rfl := e1 (by omega)
      by_cases hb : c = 0
      · subst hb
        go_wp2
        go_round
        case rel => exact ⟨3, by omega, by go_num, fun _ => trivial, fun _ => trivial, fun _ => trivial⟩
        case measure => simp [intOf]
      · go_wp2
        go_ret
        exact ⟨by simp [or3], rfl⟩
    · obtain rfl := e0 (by omega)
      obtain rfl := e1 (by omega)
      obtain rfl := e2 (by omega)
      go_wp2
      go_ret
      exact ⟨by simp [or3], rfl⟩
theorem cmpP_both {a b : Prt} (ha : a.1 = 5) (hb : b.1 = 5) : cmpP a b = or3 (cmpI a.1 b.1) (cmpI a.2.length b.2.length) (cmpL a.2 b.2) := by
  unfold cmpP or3; simp only [ha, hb, true_and]
theorem cmpP_not {a b : Prt} (h : ¬ (a.1 = 5 ∧ b.1 = 5)) : cmpP a b = or3 (cmpI a.1 b.1) 0 (cmpL a.2 b.2) := by
  unfold cmpP or3
  by_cases h1 : cmpI a.1 b.1 ≠ 0
  · rw [if_pos h1, if_pos h1]
  · rw [if_neg h1, if_neg h1, if_neg (fun h2 => h ⟨h2.1, h2.2.1⟩)]; simp
theorem new3 (w : World) (a b c : Int) : let A := w.alloc (.cells #[.int .i64 a, .int .i64 b, .int .i64 c] 3)
    A.cell? ⟨w.heap.size, 0, none⟩ = some (.int .i64 a) ∧ A.cell? ⟨w.heap.size, 1, none⟩ = some (.int .i64 b) ∧ A.cell? ⟨w.heap.size, 2, none⟩ = some (.int .i64 c) :=
  ⟨(World.cell?_alloc_at _ _ _ _ rfl).trans rfl, (World.cell?_alloc_at _ _ _ _ rfl).trans rfl, (World.cell?_alloc_at _ _ _ _ rfl).trans rfl⟩

theorem boxes2 (w : World) (ka kb : Int) (ta tb : Bytes) : let A := (w.alloc (.cells #[.int .u8 ka, .string (bs ta)] 98)).alloc (.cells #[.int .u8 kb, .string (bs tb)] 98)
    A.cell? ⟨w.heap.size, 0, none⟩ = some (.int .u8 ka) ∧ A.cell? ⟨w.heap.size, 1, none⟩ = some (.string (bs ta)) ∧ A.cell? ⟨w.heap.size + 1, 0, none⟩ = some (.int .u8 kb) ∧ A.cell? ⟨w.heap.size + 1, 1, none⟩ = some (.string (bs tb)) ∧ Below w.heap.size w A :=
  ⟨(World.cell?_alloc_past _ _ _ (by simp)).trans ((World.cell?_alloc_at _ _ _ _ rfl).trans rfl), (World.cell?_alloc_past _ _ _ (by simp)).trans ((World.cell?_alloc_at _ _ _ _ rfl).trans rfl),
   (World.cell?_alloc_at _ _ _ _ (by simp)).trans rfl, (World.cell?_alloc_at _ _ _ _ (by simp)).trans rfl, ((Below.refl _ _).alloc (Nat.le_refl _) _).alloc (by simp) _⟩
set_option maxRecDepth 100000 in
set_option maxHeartbeats 2000000 in
theorem compare_any (a b : Prt) (w : World) : Calls Tryd.prog 70 #[.agg #[.int .u8 a.1, .string (bs a.2)], .agg #[.int .u8 b.1, .string (bs b.2)]] w fun e w' => e = .returned (.int .i64 (cmpP a b)) ∧ Below w.heap.size w w' := by
  obtain ⟨ka, ta⟩ := a
  obtain ⟨kb, tb⟩ := b
  dsimp only
  go_enter Tryd.func70, Tryd.ntmps70
  by_cases ha : ka = 5
  · subst ha
    by_cases hb : kb = 5
    · subst hb
      have q := boxes2 w (5) (5) ta tb
      go_wp2_with (go_at_call 64; refine (cmp_int _ _ _).mono ?_; rintro e w' ⟨rfl, rfl⟩)
      generalize (w.alloc (.cells #[.int .u8 (5), .string (bs ta)] 98)).alloc (.cells #[.int .u8 (5), .string (bs tb)] 98) = W at *
      obtain ⟨q0, q1, q2, q3, hB⟩ := q
      have c0 : World.cell? { W with drawn := W.drawn + 1 } ⟨w.heap.size, 0, none⟩ = some (.int .u8 (5)) := q0
      have c1 : World.cell? { W with drawn := W.drawn + 1 } ⟨w.heap.size, 1, none⟩ = some (.string (bs ta)) := q1
      have c2 : World.cell? { W with drawn := W.drawn + 1 } ⟨w.heap.size + 1, 0, none⟩ = some (.int .u8 (5)) := q2
      have c3 : World.cell? { W with drawn := W.drawn + 1 } ⟨w.heap.size + 1, 1, none⟩ = some (.string (bs tb)) := q3
      refine wp_region_still_tail 11 (by kernel_rfl) (by kernel_rfl) ?_
      simp only [List.take_succ_cons, List.take_zero, List.drop_succ_cons, List.drop_zero]
      repeat still_step
      still_call ((cmp_u8 _ _ _).mono fun _ _ h => ⟨h.1, h.2.symm⟩)
      repeat still_step
      still_call ((cmp_str _ _ _).mono fun _ _ h => ⟨h.1, h.2.symm⟩)
      refine wpStill_nil ?_
      change wpList _ _ _ _ _ W.drew
      have hD : Below w.heap.size w W.drew := hB.drew
      clear q0 q1 q2 q3 c0 c1 c2 c3 hB
      generalize W.drew = W2 at *
      go_wp2_with (go_at_call 72; refine (or_any _ _ _ _ _ (new3 _ _ _ _).1 (new3 _ _ _ _).2.1 (new3 _ _ _ _).2.2).mono ?_; rintro e w' ⟨rfl, rfl⟩)
      go_ret
      refine ⟨ret_int ?_, hD.alloc hD.size _⟩
      rw [cmpP_both rfl rfl, bs_toList, bs_toList, bs_size, bs_size]
    · have hb0 : (kb == 5) = false := by simpa using hb
      have q := boxes2 w (5) (kb) ta tb
      go_wp2_with (go_at_call 64; refine (cmp_int _ _ _).mono ?_; rintro e w' ⟨rfl, rfl⟩)
      generalize (w.alloc (.cells #[.int .u8 (5), .string (bs ta)] 98)).alloc (.cells #[.int .u8 (kb), .string (bs tb)] 98) = W at *
      obtain ⟨q0, q1, q2, q3, hB⟩ := q
      have c0 : World.cell? { W with drawn := W.drawn + 1 } ⟨w.heap.size, 0, none⟩ = some (.int .u8 (5)) := q0
      have c1 : World.cell? { W with drawn := W.drawn + 1 } ⟨w.heap.size, 1, none⟩ = some (.string (bs ta)) := q1
      have c2 : World.cell? { W with drawn := W.drawn + 1 } ⟨w.heap.size + 1, 0, none⟩ = some (.int .u8 (kb)) := q2
      have c3 : World.cell? { W with drawn := W.drawn + 1 } ⟨w.heap.size + 1, 1, none⟩ = some (.string (bs tb)) := q3
      refine wp_region_still_tail 11 (by kernel_rfl) (by kernel_rfl) ?_
      simp only [List.take_succ_cons, List.take_zero, List.drop_succ_cons, List.drop_zero]
      repeat still_step
      still_call ((cmp_u8 _ _ _).mono fun _ _ h => ⟨h.1, h.2.symm⟩)
      repeat still_step
      still_call ((cmp_str _ _ _).mono fun _ _ h => ⟨h.1, h.2.symm⟩)
      refine wpStill_nil ?_
      change wpList _ _ _ _ _ W.drew
      have hD : Below w.heap.size w W.drew := hB.drew
      clear q0 q1 q2 q3 c0 c1 c2 c3 hB
      generalize W.drew = W2 at *
      go_wp2_with (go_at_call 72; refine (or_any _ _ _ _ _ (new3 _ _ _ _).1 (new3 _ _ _ _).2.1 (new3 _ _ _ _).2.2).mono ?_; rintro e w' ⟨rfl, rfl⟩)
      go_ret
      refine ⟨ret_int ?_, hD.alloc hD.size _⟩
      rw [cmpP_not (by simp [*]), bs_toList, bs_toList]
  · have ha0 : (ka == 5) = false := by simpa using ha
    have q := boxes2 w (ka) (kb) ta tb
    go_wp2_with (go_at_call 64; refine (cmp_int _ _ _).mono ?_; rintro e w' ⟨rfl, rfl⟩)
    generalize (w.alloc (.cells #[.int .u8 (ka), .string (bs ta)] 98)).alloc (.cells #[.int .u8 (kb), .string (bs tb)] 98) = W at *
    obtain ⟨q0, q1, q2, q3, hB⟩ := q
    have c0 : World.cell? { W with drawn := W.drawn + 1 } ⟨w.heap.size, 0, none⟩ = some (.int .u8 (ka)) := q0
    have c1 : World.cell? { W with drawn := W.drawn + 1 } ⟨w.heap.size, 1, none⟩ = some (.string (bs ta)) := q1
    have c2 : World.cell? { W with drawn := W.drawn + 1 } ⟨w.heap.size + 1, 0, none⟩ = some (.int .u8 (kb)) := q2
    have c3 : World.cell? { W with drawn := W.drawn + 1 } ⟨w.heap.size + 1, 1, none⟩ = some (.string (bs tb)) := q3
    refine wp_region_still_tail 11 (by kernel_rfl) (by kernel_rfl) ?_
    simp only [List.take_succ_cons, List.take_zero, List.drop_succ_cons, List.drop_zero]
    repeat still_step
    still_call ((cmp_u8 _ _ _).mono fun _ _ h => ⟨h.1, h.2.symm⟩)
    repeat still_step
    still_call ((cmp_str _ _ _).mono fun _ _ h => ⟨h.1, h.2.symm⟩)
    refine wpStill_nil ?_
    change wpList _ _ _ _ _ W.drew
    have hD : Below w.heap.size w W.drew := hB.drew
    clear q0 q1 q2 q3 c0 c1 c2 c3 hB
    generalize W.drew = W2 at *
    go_wp2_with (go_at_call 72; refine (or_any _ _ _ _ _ (new3 _ _ _ _).1 (new3 _ _ _ _).2.1 (new3 _ _ _ _).2.2).mono ?_; rintro e w' ⟨rfl, rfl⟩)
    go_ret
    refine ⟨ret_int ?_, hD.alloc hD.size _⟩
    rw [cmpP_not (by simp [*]), bs_toList, bs_toList]
end Go.Proofs.YtcpjignlhlcnpaaDoor
