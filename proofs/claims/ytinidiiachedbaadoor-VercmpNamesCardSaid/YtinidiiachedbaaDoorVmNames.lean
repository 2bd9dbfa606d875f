/- VercmpNames, walked. -/
import Derived.Test.YtinidiiachedbaaDoorVmStat
import Derived.Test.YtinidiiachedbaaDoorSortOff
import Derived.Test.YtinidiiachedbaaDoorHeld
import Derived.Deep.RegionHeld3
import Derived.RegionTactic
import Derived.ChangeAlike
namespace Go.Proofs.YtinidiiachedbaaDoor
open Go.RowKit Go.Shelf
set_option linter.unusedVariables false

def L15 : List Bytes := [[49, 126, 126], [49, 126], [49, 126, 49], [49], [49, 94], [49, 94, 49], [49, 46, 97], [49, 46, 97, 97], [49, 46, 98], [49, 46, 48], [49, 46, 48, 126, 120, 46, 57], [49, 46, 48], [49, 46, 48, 97], [49, 46, 48, 46, 48], [49, 46, 49]]
theorem same15 : ∀ i k : Fin 15, i.val < k.val → (L15.getD i.val [] == L15.getD k.val []) = (i.val == 9 && k.val == 11) := by decide +kernel
theorem ten15 : ∀ i : Fin 15, (L15.getD i.val [] == [49, 46, 48, 126, 120, 46, 57]) = (i.val == 10) := by decide +kernel
theorem comp15 : ∀ i k : Fin 15, i.val < k.val → i.val ≠ 10 → k.val ≠ 10 → comp (L15.getD i.val []) (L15.getD k.val []) = if i.val = 9 ∧ k.val = 11 then 0 else -1 := by decide +kernel
theorem len15 : ∀ i : Fin 15, (L15.getD i.val []).length ≤ 7 := by decide +kernel
theorem nrow_cells (W : World) (D : List ByteArray) (e : TypeId) (C : Array Value) (hC : C = (D.map Value.string).toArray) (W' : World) (h : Below (W.alloc (.cells C e)).heap.size (W.alloc (.cells C e)) W') (k : Nat) (hk : k < D.length) : W'.cell? ⟨W.heap.size, k, none⟩ = some (.string D[k]) := by
  subst hC
  exact (h.cell (p := ⟨W.heap.size, k, none⟩) (by simp)).trans ((World.cell?_alloc_at _ _ _ _ rfl).trans (by simp [List.getElem?_eq_getElem hk]))
theorem nrow_vals (W : World) (D : List Value) (e : TypeId) (C : Array Value) (hC : C = D.toArray) (W' : World) (h : Below (W.alloc (.cells C e)).heap.size (W.alloc (.cells C e)) W') (k : Nat) (hk : k < D.length) : W'.cell? ⟨W.heap.size, k, none⟩ = some D[k] := by
  subst hC
  exact (h.cell (p := ⟨W.heap.size, k, none⟩) (by simp)).trans ((World.cell?_alloc_at _ _ _ _ rfl).trans (by simp [List.getElem?_eq_getElem hk]))
theorem d15 (k : Nat) (hk : k < (L15.map bs).length) : (L15.map bs)[k] = bs (L15.getD k []) := by
  simp [List.getD_eq_getElem?_getD]
  rw [List.getElem?_eq_getElem (by simpa using hk)]
  rfl
def P8 : List Prt := [(4, [118]), (5, [49]), (5, []), (1, []), (4, [98]), (3, []), (4, [90]), (5, [57])]
def D16 : List Value := [.int .u8 4, .string ⟨#[118]⟩, .int .u8 5, .string ⟨#[49]⟩, .int .u8 5, .string ⟨#[]⟩, .int .u8 1, .string ⟨#[]⟩, .int .u8 4, .string ⟨#[98]⟩, .int .u8 3, .string ⟨#[]⟩, .int .u8 4, .string ⟨#[90]⟩, .int .u8 5, .string ⟨#[57]⟩]
theorem cells8 (W : World) (e : TypeId) (W' : World) (h : Below (W.alloc (.cells #[.int .u8 4, .string ⟨#[118]⟩, .int .u8 5, .string ⟨#[49]⟩, .int .u8 5, .string ⟨#[]⟩, .int .u8 1, .string ⟨#[]⟩, .int .u8 4, .string ⟨#[98]⟩, .int .u8 3, .string ⟨#[]⟩, .int .u8 4, .string ⟨#[90]⟩, .int .u8 5, .string ⟨#[57]⟩] e)).heap.size (W.alloc (.cells #[.int .u8 4, .string ⟨#[118]⟩, .int .u8 5, .string ⟨#[49]⟩, .int .u8 5, .string ⟨#[]⟩, .int .u8 1, .string ⟨#[]⟩, .int .u8 4, .string ⟨#[98]⟩, .int .u8 3, .string ⟨#[]⟩, .int .u8 4, .string ⟨#[90]⟩, .int .u8 5, .string ⟨#[57]⟩] e)) W') (k : Nat) (hk : k < P8.length) : W'.cell? ⟨W.heap.size, 2 * k, none⟩ = some (.int .u8 P8[k].1) ∧ W'.cell? ⟨W.heap.size, 2 * k + 1, none⟩ = some (.string (bs P8[k].2)) := by
  have a := nrow_vals W D16 e #[.int .u8 4, .string ⟨#[118]⟩, .int .u8 5, .string ⟨#[49]⟩, .int .u8 5, .string ⟨#[]⟩, .int .u8 1, .string ⟨#[]⟩, .int .u8 4, .string ⟨#[98]⟩, .int .u8 3, .string ⟨#[]⟩, .int .u8 4, .string ⟨#[90]⟩, .int .u8 5, .string ⟨#[57]⟩] rfl W' h
  match k, hk with
  | 0, _ => exact ⟨a 0 (by decide), a 1 (by decide)⟩
  | 1, _ => exact ⟨a 2 (by decide), a 3 (by decide)⟩
  | 2, _ => exact ⟨a 4 (by decide), a 5 (by decide)⟩
  | 3, _ => exact ⟨a 6 (by decide), a 7 (by decide)⟩
  | 4, _ => exact ⟨a 8 (by decide), a 9 (by decide)⟩
  | 5, _ => exact ⟨a 10 (by decide), a 11 (by decide)⟩
  | 6, _ => exact ⟨a 12 (by decide), a 13 (by decide)⟩
  | 7, _ => exact ⟨a 14 (by decide), a 15 (by decide)⟩
theorem parts_none (s : ByteArray) (w : World) (hs : s.size ≤ 100) (h : pts s.toList = []) : Calls Tryd.prog 16 #[.string s] w fun e w' => ∃ A c, e = .returned (.slice A 0 c) ∧ Below w.heap.size w w' := by
  refine (parts_any s w (by omega)).mono ?_
  rintro e w' ⟨v, rfl, hv, hB⟩
  rw [h] at hv
  obtain ⟨A, c, rfl, _⟩ := hv.rd (fun _ => rfl)
  exact ⟨A, c, rfl, hB⟩
theorem below_drewN {B : Nat} {w W : World} {n : Nat} (h : Below B w W) : Below B w (W.drewN n) := ⟨h.os, h.tape, h.output, h.size, h.block⟩
theorem two_keep {w W W' : World} {g j k : Nat} {x y : ByteArray} (hg : g < w.heap.size) (h : W.cell? ⟨g, j, none⟩ = some (.string x) ∧ W.cell? ⟨g, k, none⟩ = some (.string y) ∧ Below w.heap.size w W) (hb : Below W.heap.size W W') :
    W'.cell? ⟨g, j, none⟩ = some (.string x) ∧ W'.cell? ⟨g, k, none⟩ = some (.string y) ∧ Below w.heap.size w W' := by
  obtain ⟨h1, h2, h3⟩ := h
  have hs := Nat.lt_of_lt_of_le hg h3.size
  exact ⟨(hb.cell (p := ⟨g, j, none⟩) hs).trans h1, (hb.cell (p := ⟨g, k, none⟩) hs).trans h2, h3.trans (hb.mono h3.size)⟩
set_option maxRecDepth 100000 in
set_option maxHeartbeats 16000000 in
theorem vercmpNames_row (w : World) : Calls Tryd.prog 4 #[] w fun e w' => e = .returned (.bool true) ∧ Below w.heap.size w w' := by
  have AW := Lib.hid (fun W => awake02 W)
  have SO := Lib.hid (fun W => sort_empty none 0 W)
  have CM := Lib.hid (fun (x y : ByteArray) r W (hx : x.size ≤ 7) (hy : y.size ≤ 7) (h : comp x.toList y.toList = r) => show Calls Tryd.prog 15 #[.string x, .string y] W fun e w' => e = .returned (.int .i64 r) ∧ Below W.heap.size W w' from by subst h; exact comp_any x y W (by omega) (by omega))
  have HC := Lib.hid (fun W' (h : Below (w.alloc (.cells #[.string ⟨#[49, 126, 126]⟩, .string ⟨#[49, 126]⟩, .string ⟨#[49, 126, 49]⟩, .string ⟨#[49]⟩, .string ⟨#[49, 94]⟩, .string ⟨#[49, 94, 49]⟩, .string ⟨#[49, 46, 97]⟩, .string ⟨#[49, 46, 97, 97]⟩, .string ⟨#[49, 46, 98]⟩, .string ⟨#[49, 46, 48]⟩, .string ⟨#[49, 46, 48, 126, 120, 46, 57]⟩, .string ⟨#[49, 46, 48]⟩, .string ⟨#[49, 46, 48, 97]⟩, .string ⟨#[49, 46, 48, 46, 48]⟩, .string ⟨#[49, 46, 49]⟩] 9)).heap.size (w.alloc (.cells #[.string ⟨#[49, 126, 126]⟩, .string ⟨#[49, 126]⟩, .string ⟨#[49, 126, 49]⟩, .string ⟨#[49]⟩, .string ⟨#[49, 94]⟩, .string ⟨#[49, 94, 49]⟩, .string ⟨#[49, 46, 97]⟩, .string ⟨#[49, 46, 97, 97]⟩, .string ⟨#[49, 46, 98]⟩, .string ⟨#[49, 46, 48]⟩, .string ⟨#[49, 46, 48, 126, 120, 46, 57]⟩, .string ⟨#[49, 46, 48]⟩, .string ⟨#[49, 46, 48, 97]⟩, .string ⟨#[49, 46, 48, 46, 48]⟩, .string ⟨#[49, 46, 49]⟩] 9)) W') (k : Nat) (hk : k < 15) => (nrow_cells w (L15.map bs) 9 #[.string ⟨#[49, 126, 126]⟩, .string ⟨#[49, 126]⟩, .string ⟨#[49, 126, 49]⟩, .string ⟨#[49]⟩, .string ⟨#[49, 94]⟩, .string ⟨#[49, 94, 49]⟩, .string ⟨#[49, 46, 97]⟩, .string ⟨#[49, 46, 97, 97]⟩, .string ⟨#[49, 46, 98]⟩, .string ⟨#[49, 46, 48]⟩, .string ⟨#[49, 46, 48, 126, 120, 46, 57]⟩, .string ⟨#[49, 46, 48]⟩, .string ⟨#[49, 46, 48, 97]⟩, .string ⟨#[49, 46, 48, 46, 48]⟩, .string ⟨#[49, 46, 49]⟩] rfl W' h k hk).trans (congrArg (fun z => some (Value.string z)) (d15 k hk)))
  have BW := Lib.hid ((Below.refl w.heap.size w).alloc (Nat.le_refl _) (.cells #[.string ⟨#[49, 126, 126]⟩, .string ⟨#[49, 126]⟩, .string ⟨#[49, 126, 49]⟩, .string ⟨#[49]⟩, .string ⟨#[49, 94]⟩, .string ⟨#[49, 94, 49]⟩, .string ⟨#[49, 46, 97]⟩, .string ⟨#[49, 46, 97, 97]⟩, .string ⟨#[49, 46, 98]⟩, .string ⟨#[49, 46, 48]⟩, .string ⟨#[49, 46, 48, 126, 120, 46, 57]⟩, .string ⟨#[49, 46, 48]⟩, .string ⟨#[49, 46, 48, 97]⟩, .string ⟨#[49, 46, 48, 46, 48]⟩, .string ⟨#[49, 46, 49]⟩] 9))
  have hgV : w.heap.size < (w.alloc (.cells #[.string ⟨#[49, 126, 126]⟩, .string ⟨#[49, 126]⟩, .string ⟨#[49, 126, 49]⟩, .string ⟨#[49]⟩, .string ⟨#[49, 94]⟩, .string ⟨#[49, 94, 49]⟩, .string ⟨#[49, 46, 97]⟩, .string ⟨#[49, 46, 97, 97]⟩, .string ⟨#[49, 46, 98]⟩, .string ⟨#[49, 46, 48]⟩, .string ⟨#[49, 46, 48, 126, 120, 46, 57]⟩, .string ⟨#[49, 46, 48]⟩, .string ⟨#[49, 46, 48, 97]⟩, .string ⟨#[49, 46, 48, 46, 48]⟩, .string ⟨#[49, 46, 49]⟩] 9)).heap.size := by simp
  go_enter Tryd.func4, Tryd.ntmps4
  go_wp2_with fail
  generalize w.alloc (.cells #[.string ⟨#[49, 126, 126]⟩, .string ⟨#[49, 126]⟩, .string ⟨#[49, 126, 49]⟩, .string ⟨#[49]⟩, .string ⟨#[49, 94]⟩, .string ⟨#[49, 94, 49]⟩, .string ⟨#[49, 46, 97]⟩, .string ⟨#[49, 46, 97, 97]⟩, .string ⟨#[49, 46, 98]⟩, .string ⟨#[49, 46, 48]⟩, .string ⟨#[49, 46, 48, 126, 120, 46, 57]⟩, .string ⟨#[49, 46, 48]⟩, .string ⟨#[49, 46, 48, 97]⟩, .string ⟨#[49, 46, 48, 46, 48]⟩, .string ⟨#[49, 46, 49]⟩] 9) = V at *
  generalize hgg : w.heap.size = g at *
  go_loopw [2] (fun i wr => ∃ k : Nat, k ≤ 15 ∧ i = .int .i64 (k : Int) ∧ Below V.heap.size V wr) (fun i _ => 15 - (intOf i).toNat)
  case atStart => exact ⟨0, by omega, rfl, Below.refl _ _⟩
  case round =>
    obtain ⟨i, hi, rfl, hB⟩ := hrel
    rename World => wr
    by_cases hlt : i < 15
    · have i0 : (0 : Int) ≤ (i : Int) := by omega
      have i1 : (i : Int) < 15 := by omega
      go_wp2_with fail
      go_loopw [3] (fun k wr => ∃ j : Nat, i < j ∧ j ≤ 15 ∧ k = .int .i64 (j : Int) ∧ Below V.heap.size V wr) (fun k _ => 15 - (intOf k).toNat)
      case atStart => exact ⟨i + 1, by omega, by omega, by go_num, hB⟩
      case round =>
        clear hB
        obtain ⟨j, hij, hj, rfl, hB⟩ := hrel
        rename World => ws
        by_cases hjl : j < 15
        · have j0 : (0 : Int) ≤ (j : Int) := by omega
          have j1 : (j : Int) < 15 := by omega
          have p1 := HC.out ws hB i hlt
          have p2 := HC.out ws hB j hjl
          have s0 := same15 ⟨i, hlt⟩ ⟨j, hjl⟩ hij
          have t1 := ten15 ⟨i, hlt⟩
          have t2 := ten15 ⟨j, hjl⟩
          have z1 := len15 ⟨i, hlt⟩
          have z2 := len15 ⟨j, hjl⟩
          have cc := comp15 ⟨i, hlt⟩ ⟨j, hjl⟩ hij
          dsimp only at s0 t1 t2 z1 z2 cc
          have bx := bs_toList (L15.getD i [])
          have bY := bs_toList (L15.getD j [])
          rw [← bx, ← bY] at s0 cc
          rw [← bx] at t1
          rw [← bY] at t2
          have y1 := bs_size (L15.getD i [])
          have y2 := bs_size (L15.getD j [])
          rw [← y1] at z1
          rw [← y2] at z2
          clear bx bY y1 y2
          generalize bs (L15.getD i []) = x at *
          generalize bs (L15.getD j []) = y at *
          by_cases c9 : i = 9 ∧ j = 11
          · obtain ⟨hi9, rfl⟩ := c9
            have e0 : x = y := toList_inj (beq_iff_eq.1 (s0.trans (by rw [hi9]; rfl)))
            subst e0
            have CC := Lib.hid (fun W => CM.out x x 0 W z1 z1 ((cc (by omega) (by decide)).trans (if_pos ⟨hi9, rfl⟩)))
            have t3 : (x.toList == [49, 46, 48, 126, 120, 46, 57]) = false := t1.trans (by rw [hi9]; rfl)
            have t3' : ¬ x.toList = [49, 46, 48, 126, 120, 46, 57] := beq_eq_false_iff_ne.1 t3
            have e9 : ((i : Int) == 9) = true := beq_iff_eq.2 (by omega)
            have HI := Lib.hid hi9
            clear hi9 s0 t1 t2 cc z1 z2 hi hj hlt hjl hij
            have i11 : (((11 : Nat)) : Int) = 11 := rfl
            rw [i11]
            go_wp2_with fail
            go_quiet (fail)
            go_wp2_with fail
            refine wp_region_held_drew (S := fun W => W.cell? ⟨g, i, none⟩ = some (.string x) ∧ W.cell? ⟨g, 11, none⟩ = some (.string x) ∧ Below V.heap.size V W) (by kernel_rfl) (by exact ⟨p1, p2, (below_drewN hB).drew⟩) (fun hHeld => ?_)
            refine held_take 0 (some 55) ?_ rfl rfl (by kernel_rfl) (by kernel_rfl) (by kernel_rfl) (fun _ _ _ h => h) (by assumption) (by rfl) ?_ ?_
            rotate_left
            · intro w hSw
              try dsimp only at hSw
              try simp only [List.getElem_toArray, List.getElem_cons_succ, List.getElem_cons_zero]
              go_simp
              try with_reducible rfl
            try simp only [Act.put, List.setIfInBounds_toArray, List.set_cons_zero, List.set_cons_succ]
            refine held_take 1 (some 56) ?_ rfl rfl (by kernel_rfl) (by kernel_rfl) (by kernel_rfl) (fun _ _ _ h => h) (by assumption) (by rfl) ?_ ?_
            rotate_left
            · intro w hSw
              try dsimp only at hSw
              try simp only [List.getElem_toArray, List.getElem_cons_succ, List.getElem_cons_zero]
              go_simp
              try with_reducible rfl
            try simp only [Act.put, List.setIfInBounds_toArray, List.set_cons_zero, List.set_cons_succ]
            refine held_take 2 (some 57) ?_ rfl rfl (by kernel_rfl) (by kernel_rfl) (by kernel_rfl) (fun _ _ _ h => h) (by assumption) (by rfl) ?_ ?_
            rotate_left
            · intro w hSw
              try dsimp only at hSw
              try simp only [List.getElem_toArray, List.getElem_cons_succ, List.getElem_cons_zero]
              go_simp
              try with_reducible rfl
            try simp only [Act.put, List.setIfInBounds_toArray, List.set_cons_zero, List.set_cons_succ]
            refine held_take 3 (some 58) ?_ rfl rfl (by kernel_rfl) (by kernel_rfl) (by kernel_rfl) (fun _ _ _ h => h) (by assumption) (by rfl) ?_ ?_
            rotate_left
            · intro w hSw
              try dsimp only at hSw
              try simp only [List.getElem_toArray, List.getElem_cons_succ, List.getElem_cons_zero]
              go_simp
              try with_reducible rfl
            try simp only [Act.put, List.setIfInBounds_toArray, List.set_cons_zero, List.set_cons_succ]
            refine held_take 4 (some 59) ?_ rfl rfl (by kernel_rfl) (by kernel_rfl) (by kernel_rfl) (fun _ _ _ h => h) (by assumption) (by rfl) ?_ ?_
            rotate_left
            · intro w hSw
              try dsimp only at hSw
              try simp only [List.getElem_toArray, List.getElem_cons_succ, List.getElem_cons_zero]
              go_simp
              try with_reducible rfl
            try simp only [Act.put, List.setIfInBounds_toArray, List.set_cons_zero, List.set_cons_succ]
            refine held_take 5 (some 60) ?_ rfl rfl (by kernel_rfl) (by kernel_rfl) (by kernel_rfl) (fun _ _ _ h => h) (by assumption) (by rfl) ?_ ?_
            rotate_left
            · intro w hSw
              try dsimp only at hSw
              try simp only [List.getElem_toArray, List.getElem_cons_succ, List.getElem_cons_zero]
              go_simp
              try with_reducible rfl
            try simp only [Act.put, List.setIfInBounds_toArray, List.set_cons_zero, List.set_cons_succ]
            refine held_take 6 (some 61) ?_ rfl rfl (by kernel_rfl) (by kernel_rfl) (by kernel_rfl) (fun _ _ _ h => h) (by assumption) (by rfl) ?_ ?_
            rotate_left
            · intro w hSw
              try dsimp only at hSw
              try simp only [List.getElem_toArray, List.getElem_cons_succ, List.getElem_cons_zero]
              go_simp
              try with_reducible rfl
            try simp only [Act.put, List.setIfInBounds_toArray, List.set_cons_zero, List.set_cons_succ]
            refine held_take 7 (some 62) ?_ rfl rfl (by kernel_rfl) (by kernel_rfl) (by kernel_rfl) (fun _ _ _ h => h) (by assumption) (by rfl) ?_ ?_
            rotate_left
            · intro w hSw
              try dsimp only at hSw
              try simp only [List.getElem_toArray, List.getElem_cons_succ, List.getElem_cons_zero]
              go_simp
              try with_reducible rfl
            try simp only [Act.put, List.setIfInBounds_toArray, List.set_cons_zero, List.set_cons_succ]
            refine held_take 8 (some 63) ?_ rfl rfl (by kernel_rfl) (by kernel_rfl) (by kernel_rfl) (fun _ _ _ h => h) (by assumption) (by rfl) ?_ ?_
            rotate_left
            · intro w hSw
              try dsimp only at hSw
              try simp only [List.getElem_toArray, List.getElem_cons_succ, List.getElem_cons_zero]
              go_simp
              try with_reducible rfl
            try simp only [Act.put, List.setIfInBounds_toArray, List.set_cons_zero, List.set_cons_succ]
            refine wpAnyH_ready (rs := [9]) (by kernel_rfl) (by simp) ?_
            refine AllReadyH.cons rfl (fun K hK => ?_) AllReadyH.nil
            try simp only [List.getElem_toArray, List.getElem_cons_succ, List.getElem_cons_zero]
            go_simp
            (go_at_call 15; refine (CC.out _).mono ?_; rintro e' w' ⟨rfl, hbb⟩)
            refine hK.out _ _ (two_keep hgV (by assumption) hbb) (fun hHeld => ?_)
            clear hK K
            try simp only [Act.put, List.setIfInBounds_toArray, List.set_cons_zero, List.set_cons_succ]
            refine held_take 10 (some 65) ?_ rfl rfl (by kernel_rfl) (by kernel_rfl) (by kernel_rfl) (fun _ _ _ h => h) (by assumption) (by rfl) ?_ ?_
            rotate_left
            · intro w hSw
              try dsimp only at hSw
              try simp only [List.getElem_toArray, List.getElem_cons_succ, List.getElem_cons_zero]
              go_simp
              try with_reducible rfl
            try simp only [Act.put, List.setIfInBounds_toArray, List.set_cons_zero, List.set_cons_succ]
            refine held_take 11 (some 66) ?_ rfl rfl (by kernel_rfl) (by kernel_rfl) (by kernel_rfl) (fun _ _ _ h => h) (by assumption) (by rfl) ?_ ?_
            rotate_left
            · intro w hSw
              try dsimp only at hSw
              try simp only [List.getElem_toArray, List.getElem_cons_succ, List.getElem_cons_zero]
              go_simp
              try with_reducible rfl
            try simp only [Act.put, List.setIfInBounds_toArray, List.set_cons_zero, List.set_cons_succ]
            refine held_take 12 (some 67) ?_ rfl rfl (by kernel_rfl) (by kernel_rfl) (by kernel_rfl) (fun _ _ _ h => h) (by assumption) (by rfl) ?_ ?_
            rotate_left
            · intro w hSw
              try dsimp only at hSw
              try simp only [List.getElem_toArray, List.getElem_cons_succ, List.getElem_cons_zero]
              go_simp
              try with_reducible rfl
            try simp only [Act.put, List.setIfInBounds_toArray, List.set_cons_zero, List.set_cons_succ]
            refine held_take 13 (some 68) ?_ rfl rfl (by kernel_rfl) (by kernel_rfl) (by kernel_rfl) (fun _ _ _ h => h) (by assumption) (by rfl) ?_ ?_
            rotate_left
            · intro w hSw
              try dsimp only at hSw
              try simp only [List.getElem_toArray, List.getElem_cons_succ, List.getElem_cons_zero]
              go_simp
              try with_reducible rfl
            try simp only [Act.put, List.setIfInBounds_toArray, List.set_cons_zero, List.set_cons_succ]
            refine held_take 14 (some 69) ?_ rfl rfl (by kernel_rfl) (by kernel_rfl) (by kernel_rfl) (fun _ _ _ h => h) (by assumption) (by rfl) ?_ ?_
            rotate_left
            · intro w hSw
              try dsimp only at hSw
              try simp only [List.getElem_toArray, List.getElem_cons_succ, List.getElem_cons_zero]
              go_simp
              try with_reducible rfl
            try simp only [Act.put, List.setIfInBounds_toArray, List.set_cons_zero, List.set_cons_succ]
            refine held_take 15 (some 70) ?_ rfl rfl (by kernel_rfl) (by kernel_rfl) (by kernel_rfl) (fun _ _ _ h => h) (by assumption) (by rfl) ?_ ?_
            rotate_left
            · intro w hSw
              try dsimp only at hSw
              try simp only [List.getElem_toArray, List.getElem_cons_succ, List.getElem_cons_zero]
              go_simp
              try with_reducible rfl
            try simp only [Act.put, List.setIfInBounds_toArray, List.set_cons_zero, List.set_cons_succ]
            refine held_skip 16 (some 71) rfl rfl (by kernel_rfl) (by kernel_rfl) (by kernel_rfl) (fun _ _ _ h => h) (by assumption) (by rfl) ?_
            try simp only [Act.put, List.setIfInBounds_toArray, List.set_cons_zero, List.set_cons_succ]
            refine held_skip 17 (some 72) rfl rfl (by kernel_rfl) (by kernel_rfl) (by kernel_rfl) (fun _ _ _ h => h) (by assumption) (by rfl) ?_
            try simp only [Act.put, List.setIfInBounds_toArray, List.set_cons_zero, List.set_cons_succ]
            refine held_skip 18 (some 73) rfl rfl (by kernel_rfl) (by kernel_rfl) (by kernel_rfl) (fun _ _ _ h => h) (by assumption) (by rfl) ?_
            try simp only [Act.put, List.setIfInBounds_toArray, List.set_cons_zero, List.set_cons_succ]
            refine held_skip 19 (some 74) rfl rfl (by kernel_rfl) (by kernel_rfl) (by kernel_rfl) (fun _ _ _ h => h) (by assumption) (by rfl) ?_
            try simp only [Act.put, List.setIfInBounds_toArray, List.set_cons_zero, List.set_cons_succ]
            refine held_skip 20 (some 75) rfl rfl (by kernel_rfl) (by kernel_rfl) (by kernel_rfl) (fun _ _ _ h => h) (by assumption) (by rfl) ?_
            try simp only [Act.put, List.setIfInBounds_toArray, List.set_cons_zero, List.set_cons_succ]
            refine held_skip 21 (some 76) rfl rfl (by kernel_rfl) (by kernel_rfl) (by kernel_rfl) (fun _ _ _ h => h) (by assumption) (by rfl) ?_
            try simp only [Act.put, List.setIfInBounds_toArray, List.set_cons_zero, List.set_cons_succ]
            refine held_skip 22 (some 77) rfl rfl (by kernel_rfl) (by kernel_rfl) (by kernel_rfl) (fun _ _ _ h => h) (by assumption) (by rfl) ?_
            try simp only [Act.put, List.setIfInBounds_toArray, List.set_cons_zero, List.set_cons_succ]
            refine held_skip 23 (some 78) rfl rfl (by kernel_rfl) (by kernel_rfl) (by kernel_rfl) (fun _ _ _ h => h) (by assumption) (by rfl) ?_
            try simp only [Act.put, List.setIfInBounds_toArray, List.set_cons_zero, List.set_cons_succ]
            refine held_skip 24 (some 79) rfl rfl (by kernel_rfl) (by kernel_rfl) (by kernel_rfl) (fun _ _ _ h => h) (by assumption) (by rfl) ?_
            try simp only [Act.put, List.setIfInBounds_toArray, List.set_cons_zero, List.set_cons_succ]
            refine held_skip 25 (some 80) rfl rfl (by kernel_rfl) (by kernel_rfl) (by kernel_rfl) (fun _ _ _ h => h) (by assumption) (by rfl) ?_
            try simp only [Act.put, List.setIfInBounds_toArray, List.set_cons_zero, List.set_cons_succ]
            refine held_take 26 (some 81) ?_ rfl rfl (by kernel_rfl) (by kernel_rfl) (by kernel_rfl) (fun _ _ _ h => h) (by assumption) (by rfl) ?_ ?_
            rotate_left
            · intro w hSw
              try dsimp only at hSw
              try simp only [List.getElem_toArray, List.getElem_cons_succ, List.getElem_cons_zero]
              go_simp
              try with_reducible rfl
            try simp only [Act.put, List.setIfInBounds_toArray, List.set_cons_zero, List.set_cons_succ]
            refine held_take 27 (some 82) ?_ rfl rfl (by kernel_rfl) (by kernel_rfl) (by kernel_rfl) (fun _ _ _ h => h) (by assumption) (by rfl) ?_ ?_
            rotate_left
            · intro w hSw
              try dsimp only at hSw
              try simp only [List.getElem_toArray, List.getElem_cons_succ, List.getElem_cons_zero]
              go_simp
              try with_reducible rfl
            try simp only [Act.put, List.setIfInBounds_toArray, List.set_cons_zero, List.set_cons_succ]
            refine wpAnyH_done (by kernel_rfl) ?_ _
            obtain ⟨_, _, hB⟩ := hHeld
            go_wp2_with fail
            go_roundw
            case rel => exact ⟨12, by have := HI.out; omega, by omega, by go_num, hB⟩
            case measure => first | (simp [intOf]; done) | (simp [intOf]; omega)
          · have s1 : (x.toList == y.toList) = false := by rw [s0]; simp; omega
            have s1' : ¬ x.toList = y.toList := beq_eq_false_iff_ne.1 s1
            clear s0
            by_cases c10 : i = 10
            · subst c10
              have t3 : x.toList = [49, 46, 48, 126, 120, 46, 57] := beq_iff_eq.1 (t1.trans rfl)
              have s2 : ([49, 46, 48, 126, 120, 46, 57] == y.toList) = false := by rw [← t3]; exact s1
              have s2' : ¬ [49, 46, 48, 126, 120, 46, 57] = y.toList := beq_eq_false_iff_ne.1 s2
              clear t1 t2 cc z1 z2 c9
              go_wp2_with fail
              go_quiet (fail)
              go_wp2_with fail
              go_roundw
              case rel => exact ⟨j + 1, by omega, by omega, by go_num, below_drewN hB⟩
              case measure => first | (simp [intOf]; done) | (simp [intOf]; omega)
            · have t3 : (x.toList == [49, 46, 48, 126, 120, 46, 57]) = false := by rw [t1]; simp; omega
              have t3' : ¬ x.toList = [49, 46, 48, 126, 120, 46, 57] := beq_eq_false_iff_ne.1 t3
              by_cases c11 : j = 10
              · subst c11
                have t4 : y.toList = [49, 46, 48, 126, 120, 46, 57] := beq_iff_eq.1 (t2.trans rfl)
                clear t1 t2 cc z1 z2 c9
                by_cases d9 : i = 9
                · have e9 : ((i : Int) == 9) = true := beq_iff_eq.2 (by omega)
                  clear d9
                  go_wp2_with fail
                  go_quiet (fail)
                  go_wp2_with fail
                  go_roundw
                  case rel => exact ⟨10 + 1, by omega, by omega, by go_num, below_drewN hB⟩
                  case measure => first | (simp [intOf]; done) | (simp [intOf]; omega)
                · have d9' : ¬ (i : Int) = 9 := by omega
                  go_wp2_with fail
                  go_quiet (fail)
                  go_wp2_with fail
                  go_roundw
                  case rel => exact ⟨10 + 1, by omega, by omega, by go_num, below_drewN hB⟩
                  case measure => first | (simp [intOf]; done) | (simp [intOf]; omega)
              · have t4 : (y.toList == [49, 46, 48, 126, 120, 46, 57]) = false := by rw [t2]; simp; omega
                have t4' : ¬ y.toList = [49, 46, 48, 126, 120, 46, 57] := beq_eq_false_iff_ne.1 t4
                have CC := Lib.hid (fun W => CM.out x y (-1) W z1 z2 (by rw [cc c10 c11, if_neg c9]))
                clear t1 t2 cc z1 z2
                by_cases d9 : i = 9
                · have e9 : ((i : Int) == 9) = true := beq_iff_eq.2 (by omega)
                  have d11 : ¬ (j : Int) = 11 := by omega
                  clear d9
                  have e11 : ((j : Int) == 11) = false := beq_eq_false_iff_ne.2 d11
                  go_wp2_with fail
                  go_quiet (fail)
                  go_wp2_with fail
                  go_region_held3 (fun W => W.cell? ⟨g, i, none⟩ = some (.string x) ∧ W.cell? ⟨g, j, none⟩ = some (.string y) ∧ Below V.heap.size V W) (first | exact two_keep hgV (by assumption) hbb | exact ⟨p1, p2, (below_drewN hB).drew⟩ | go_keep) (first | (go_at_call 15; refine (CC.out _).mono ?_; rintro e' w' ⟨rfl, hbb⟩))
                  rename_i hh
                  clear p1 p2 hB
                  have hB := hh.2.2
                  go_wp2_with fail
                  go_roundw
                  case rel => exact ⟨j + 1, by omega, by omega, by go_num, hB⟩
                  case measure => first | (simp [intOf]; done) | (simp [intOf]; omega)
                · have d9' : ¬ (i : Int) = 9 := by omega
                  go_wp2_with fail
                  go_quiet (fail)
                  go_wp2_with fail
                  go_region_held3 (fun W => W.cell? ⟨g, i, none⟩ = some (.string x) ∧ W.cell? ⟨g, j, none⟩ = some (.string y) ∧ Below V.heap.size V W) (first | exact two_keep hgV (by assumption) hbb | exact ⟨p1, p2, (below_drewN hB).drew⟩ | go_keep) (first | (go_at_call 15; refine (CC.out _).mono ?_; rintro e' w' ⟨rfl, hbb⟩))
                  rename_i hh
                  clear p1 p2 hB
                  have hB := hh.2.2
                  go_wp2_with fail
                  go_roundw
                  case rel => exact ⟨j + 1, by omega, by omega, by go_num, hB⟩
                  case measure => first | (simp [intOf]; done) | (simp [intOf]; omega)
        · have j1 : ¬ (j : Int) < 15 := by omega
          go_wp2_with fail
          go_roundw
          case rel => exact ⟨i + 1, by omega, by go_num, hB⟩
          case measure => simp [intOf]; omega
    · have i1 : ¬ (i : Int) < 15 := by omega
      have hB := BW.out.trans (hB.mono (Nat.le_of_lt hgV))
      clear HC BW hgV hi hlt CM
      rename World => wr
      subst hgg
      have C1 := Lib.hid (fun W => cmp_lit W ⟨#[57, 57, 57, 57, 57, 57, 57, 57, 57, 57, 57, 57, 57, 57, 57, 57, 57, 57, 57, 57, 57, 57, 57, 57, 57, 57, 57, 57, 57, 57, 57, 57]⟩ (⟨#[49]⟩ ++ ⟨#[57, 57, 57, 57, 57, 57, 57, 57, 57, 57, 57, 57, 57, 57, 57, 57, 57, 57, 57, 57, 57, 57, 57, 57, 57, 57, 57, 57, 57, 57, 57, 57]⟩) (-1) (by decide +kernel) (by decide))
      have C2 := Lib.hid (fun W => cmp_lit W (⟨#[48, 48, 48]⟩ ++ ⟨#[57, 57, 57, 57, 57, 57, 57, 57, 57, 57, 57, 57, 57, 57, 57, 57, 57, 57, 57, 57, 57, 57, 57, 57, 57, 57, 57, 57, 57, 57, 57, 57]⟩) ⟨#[57, 57, 57, 57, 57, 57, 57, 57, 57, 57, 57, 57, 57, 57, 57, 57, 57, 57, 57, 57, 57, 57, 57, 57, 57, 57, 57, 57, 57, 57, 57, 57]⟩ 0 (by decide +kernel) (by decide))
      have C3 := Lib.hid (fun W => cmp_lit W ⟨#[49, 46, 48, 126, 120, 46, 57]⟩ ⟨#[49, 46, 48]⟩ (-1) (by decide +kernel) (by decide))
      have C4 := Lib.hid (fun W => cmp_lit W ⟨#[49, 46, 48, 126, 120, 46, 57]⟩ ⟨#[49, 46, 98]⟩ 1 (by decide +kernel) (by decide))
      go_wp2_with fail
      go_at_call 15
      refine (C1.out _).mono ?_
      rintro e wn ⟨rfl, h⟩
      have hB := hB.trans (h.mono hB.size)
      clear h
      go_wp2_with fail
      go_at_call 15
      refine (C2.out _).mono ?_
      rintro e wn ⟨rfl, h⟩
      have hB := hB.trans (h.mono hB.size)
      clear h
      go_wp2_with fail
      go_at_call 15
      refine (C3.out _).mono ?_
      rintro e wn ⟨rfl, h⟩
      have hB := hB.trans (h.mono hB.size)
      clear h
      go_wp2_with fail
      go_at_call 15
      refine (C4.out _).mono ?_
      rintro e wn ⟨rfl, h⟩
      have hB := hB.trans (h.mono hB.size)
      clear h
      clear C1 C2 C3 C4
      have P0 := Lib.hid (fun W => parts_none ⟨#[]⟩ W (by decide) (by decide +kernel))
      have X0 := Lib.hid (fun W => cmp_lit W ⟨#[]⟩ ⟨#[]⟩ 0 (by decide +kernel) (by decide))
      have Y0 := Lib.hid (fun W => cmp_lit W (⟨#[49]⟩ ++ ⟨#[]⟩ ++ ⟨#[50]⟩) ⟨#[49, 46, 50]⟩ 1 (by decide +kernel) (by decide))
      have P1 := Lib.hid (fun W => parts_none ⟨#[46]⟩ W (by decide) (by decide +kernel))
      have X1 := Lib.hid (fun W => cmp_lit W ⟨#[46]⟩ ⟨#[]⟩ 0 (by decide +kernel) (by decide))
      have Y1 := Lib.hid (fun W => cmp_lit W (⟨#[49]⟩ ++ ⟨#[46]⟩ ++ ⟨#[50]⟩) ⟨#[49, 46, 50]⟩ 0 (by decide +kernel) (by decide))
      have P2 := Lib.hid (fun W => parts_none ⟨#[45, 45]⟩ W (by decide) (by decide +kernel))
      have X2 := Lib.hid (fun W => cmp_lit W ⟨#[45, 45]⟩ ⟨#[]⟩ 0 (by decide +kernel) (by decide))
      have Y2 := Lib.hid (fun W => cmp_lit W (⟨#[49]⟩ ++ ⟨#[45, 45]⟩ ++ ⟨#[50]⟩) ⟨#[49, 46, 50]⟩ 0 (by decide +kernel) (by decide))
      have P3 := Lib.hid (fun W => parts_none ⟨#[0, 255]⟩ W (by decide) (by decide +kernel))
      have X3 := Lib.hid (fun W => cmp_lit W ⟨#[0, 255]⟩ ⟨#[]⟩ 0 (by decide +kernel) (by decide))
      have Y3 := Lib.hid (fun W => cmp_lit W (⟨#[49]⟩ ++ ⟨#[0, 255]⟩ ++ ⟨#[50]⟩) ⟨#[49, 46, 50]⟩ 0 (by decide +kernel) (by decide))
      have P4 := Lib.hid (fun W => parts_none ⟨#[195, 169]⟩ W (by decide) (by decide +kernel))
      have X4 := Lib.hid (fun W => cmp_lit W ⟨#[195, 169]⟩ ⟨#[]⟩ 0 (by decide +kernel) (by decide))
      have Y4 := Lib.hid (fun W => cmp_lit W (⟨#[49]⟩ ++ ⟨#[195, 169]⟩ ++ ⟨#[50]⟩) ⟨#[49, 46, 50]⟩ 0 (by decide +kernel) (by decide))
      have P5 := Lib.hid (fun W => parts_none ⟨#[32]⟩ W (by decide) (by decide +kernel))
      have X5 := Lib.hid (fun W => cmp_lit W ⟨#[32]⟩ ⟨#[]⟩ 0 (by decide +kernel) (by decide))
      have Y5 := Lib.hid (fun W => cmp_lit W (⟨#[49]⟩ ++ ⟨#[32]⟩ ++ ⟨#[50]⟩) ⟨#[49, 46, 50]⟩ 0 (by decide +kernel) (by decide))
      go_wp2_with fail
      have HC := Lib.hid (fun W' (h : Below (wn.alloc (.cells #[.string ⟨#[]⟩, .string ⟨#[46]⟩, .string ⟨#[45, 45]⟩, .string ⟨#[0, 255]⟩, .string ⟨#[195, 169]⟩, .string ⟨#[32]⟩] 9)).heap.size (wn.alloc (.cells #[.string ⟨#[]⟩, .string ⟨#[46]⟩, .string ⟨#[45, 45]⟩, .string ⟨#[0, 255]⟩, .string ⟨#[195, 169]⟩, .string ⟨#[32]⟩] 9)) W') (k : Nat) (hk : k < 6) => nrow_cells wn [⟨#[]⟩, ⟨#[46]⟩, ⟨#[45, 45]⟩, ⟨#[0, 255]⟩, ⟨#[195, 169]⟩, ⟨#[32]⟩] 9 #[.string ⟨#[]⟩, .string ⟨#[46]⟩, .string ⟨#[45, 45]⟩, .string ⟨#[0, 255]⟩, .string ⟨#[195, 169]⟩, .string ⟨#[32]⟩] rfl W' h k hk)
      have BW := hB.alloc hB.size (.cells #[.string ⟨#[]⟩, .string ⟨#[46]⟩, .string ⟨#[45, 45]⟩, .string ⟨#[0, 255]⟩, .string ⟨#[195, 169]⟩, .string ⟨#[32]⟩] 9)
      generalize wn.alloc (.cells #[.string ⟨#[]⟩, .string ⟨#[46]⟩, .string ⟨#[45, 45]⟩, .string ⟨#[0, 255]⟩, .string ⟨#[195, 169]⟩, .string ⟨#[32]⟩] 9) = V3 at *
      generalize wn.heap.size = g3 at *
      clear hB
      have hB := Below.refl V3.heap.size V3
      refine wp_loop_rounds 7 ?_
      rw [rounds_succ]
      have c := HC.out _ hB 0 (by decide)
      simp only [List.getElem_cons_zero] at c
      go_wp2_with fail
      go_at_call 16
      refine (P0.out _).mono ?_
      rintro e wn ⟨A, d, rfl, h⟩
      have hB := hB.trans (h.mono hB.size)
      clear h
      clear c
      go_wp2_with fail
      go_at_call 15
      refine (X0.out _).mono ?_
      rintro e wn ⟨rfl, h⟩
      have hB := hB.trans (h.mono hB.size)
      clear h
      go_wp2_with fail
      go_at_call 15
      refine (Y0.out _).mono ?_
      rintro e wn ⟨rfl, h⟩
      have hB := hB.trans (h.mono hB.size)
      clear h
      clear P0 X0 Y0
      go_wp2_with fail
      rw [rounds_succ]
      have c := HC.out _ hB 1 (by decide)
      simp only [List.getElem_cons_zero, List.getElem_cons_succ] at c
      go_wp2_with fail
      go_at_call 16
      refine (P1.out _).mono ?_
      rintro e wn ⟨A, d, rfl, h⟩
      have hB := hB.trans (h.mono hB.size)
      clear h
      clear c
      go_wp2_with fail
      go_at_call 15
      refine (X1.out _).mono ?_
      rintro e wn ⟨rfl, h⟩
      have hB := hB.trans (h.mono hB.size)
      clear h
      go_wp2_with fail
      go_at_call 15
      refine (Y1.out _).mono ?_
      rintro e wn ⟨rfl, h⟩
      have hB := hB.trans (h.mono hB.size)
      clear h
      clear P1 X1 Y1
      go_wp2_with fail
      rw [rounds_succ]
      have c := HC.out _ hB 2 (by decide)
      simp only [List.getElem_cons_zero, List.getElem_cons_succ] at c
      go_wp2_with fail
      go_at_call 16
      refine (P2.out _).mono ?_
      rintro e wn ⟨A, d, rfl, h⟩
      have hB := hB.trans (h.mono hB.size)
      clear h
      clear c
      go_wp2_with fail
      go_at_call 15
      refine (X2.out _).mono ?_
      rintro e wn ⟨rfl, h⟩
      have hB := hB.trans (h.mono hB.size)
      clear h
      go_wp2_with fail
      go_at_call 15
      refine (Y2.out _).mono ?_
      rintro e wn ⟨rfl, h⟩
      have hB := hB.trans (h.mono hB.size)
      clear h
      clear P2 X2 Y2
      go_wp2_with fail
      rw [rounds_succ]
      have c := HC.out _ hB 3 (by decide)
      simp only [List.getElem_cons_zero, List.getElem_cons_succ] at c
      go_wp2_with fail
      go_at_call 16
      refine (P3.out _).mono ?_
      rintro e wn ⟨A, d, rfl, h⟩
      have hB := hB.trans (h.mono hB.size)
      clear h
      clear c
      go_wp2_with fail
      go_at_call 15
      refine (X3.out _).mono ?_
      rintro e wn ⟨rfl, h⟩
      have hB := hB.trans (h.mono hB.size)
      clear h
      go_wp2_with fail
      go_at_call 15
      refine (Y3.out _).mono ?_
      rintro e wn ⟨rfl, h⟩
      have hB := hB.trans (h.mono hB.size)
      clear h
      clear P3 X3 Y3
      go_wp2_with fail
      rw [rounds_succ]
      have c := HC.out _ hB 4 (by decide)
      simp only [List.getElem_cons_zero, List.getElem_cons_succ] at c
      go_wp2_with fail
      go_at_call 16
      refine (P4.out _).mono ?_
      rintro e wn ⟨A, d, rfl, h⟩
      have hB := hB.trans (h.mono hB.size)
      clear h
      clear c
      go_wp2_with fail
      go_at_call 15
      refine (X4.out _).mono ?_
      rintro e wn ⟨rfl, h⟩
      have hB := hB.trans (h.mono hB.size)
      clear h
      go_wp2_with fail
      go_at_call 15
      refine (Y4.out _).mono ?_
      rintro e wn ⟨rfl, h⟩
      have hB := hB.trans (h.mono hB.size)
      clear h
      clear P4 X4 Y4
      go_wp2_with fail
      rw [rounds_succ]
      have c := HC.out _ hB 5 (by decide)
      simp only [List.getElem_cons_zero, List.getElem_cons_succ] at c
      go_wp2_with fail
      go_at_call 16
      refine (P5.out _).mono ?_
      rintro e wn ⟨A, d, rfl, h⟩
      have hB := hB.trans (h.mono hB.size)
      clear h
      clear c
      go_wp2_with fail
      go_at_call 15
      refine (X5.out _).mono ?_
      rintro e wn ⟨rfl, h⟩
      have hB := hB.trans (h.mono hB.size)
      clear h
      go_wp2_with fail
      go_at_call 15
      refine (Y5.out _).mono ?_
      rintro e wn ⟨rfl, h⟩
      have hB := hB.trans (h.mono hB.size)
      clear h
      clear P5 X5 Y5
      go_wp2_with fail
      clear HC
      rw [rounds_succ]
      have hB := BW.trans (hB.mono BW.size)
      clear BW
      have PV := Lib.hid (fun W => parts_any ⟨#[118, 48, 49, 46, 48, 126, 98, 94, 90, 57]⟩ W (by decide))
      rw [show pts (⟨#[118, 48, 49, 46, 48, 126, 98, 94, 90, 57]⟩ : ByteArray).toList = P8 from by decide +kernel] at PV
      go_wp2_with fail
      go_at_call 16
      refine (PV.out _).mono ?_
      rintro e wp ⟨v, rfl, hv, h⟩
      obtain ⟨A, c, rfl, hrA⟩ := hv.rd (fun _ => rfl)
      have HA := Lib.hid hrA
      have hB := hB.trans (h.mono hB.size)
      clear h hv hrA PV
      rw [show P8.length = 8 from rfl]
      have HC := Lib.hid (fun W' (h : Below (wp.alloc (.cells #[.int .u8 4, .string ⟨#[118]⟩, .int .u8 5, .string ⟨#[49]⟩, .int .u8 5, .string ⟨#[]⟩, .int .u8 1, .string ⟨#[]⟩, .int .u8 4, .string ⟨#[98]⟩, .int .u8 3, .string ⟨#[]⟩, .int .u8 4, .string ⟨#[90]⟩, .int .u8 5, .string ⟨#[57]⟩] 31)).heap.size (wp.alloc (.cells #[.int .u8 4, .string ⟨#[118]⟩, .int .u8 5, .string ⟨#[49]⟩, .int .u8 5, .string ⟨#[]⟩, .int .u8 1, .string ⟨#[]⟩, .int .u8 4, .string ⟨#[98]⟩, .int .u8 3, .string ⟨#[]⟩, .int .u8 4, .string ⟨#[90]⟩, .int .u8 5, .string ⟨#[57]⟩] 31)) W') (k : Nat) (hk : k < P8.length) => cells8 wp 31 W' h k hk)
      have hB8 := hB.alloc hB.size (.cells #[.int .u8 4, .string ⟨#[118]⟩, .int .u8 5, .string ⟨#[49]⟩, .int .u8 5, .string ⟨#[]⟩, .int .u8 1, .string ⟨#[]⟩, .int .u8 4, .string ⟨#[98]⟩, .int .u8 3, .string ⟨#[]⟩, .int .u8 4, .string ⟨#[90]⟩, .int .u8 5, .string ⟨#[57]⟩] 31)
      have HA8 := Lib.hid (HA.out.below ((Below.refl wp.heap.size wp).alloc (Nat.le_refl _) (.cells #[.int .u8 4, .string ⟨#[118]⟩, .int .u8 5, .string ⟨#[49]⟩, .int .u8 5, .string ⟨#[]⟩, .int .u8 1, .string ⟨#[]⟩, .int .u8 4, .string ⟨#[98]⟩, .int .u8 3, .string ⟨#[]⟩, .int .u8 4, .string ⟨#[90]⟩, .int .u8 5, .string ⟨#[57]⟩] 31)))
      have hg8 : wp.heap.size ≤ (wp.alloc (.cells #[.int .u8 4, .string ⟨#[118]⟩, .int .u8 5, .string ⟨#[49]⟩, .int .u8 5, .string ⟨#[]⟩, .int .u8 1, .string ⟨#[]⟩, .int .u8 4, .string ⟨#[98]⟩, .int .u8 3, .string ⟨#[]⟩, .int .u8 4, .string ⟨#[90]⟩, .int .u8 5, .string ⟨#[57]⟩] 31)).heap.size := by simp
      clear HA hB
      go_wp2_with fail
      generalize wp.alloc (.cells #[.int .u8 4, .string ⟨#[118]⟩, .int .u8 5, .string ⟨#[49]⟩, .int .u8 5, .string ⟨#[]⟩, .int .u8 1, .string ⟨#[]⟩, .int .u8 4, .string ⟨#[98]⟩, .int .u8 3, .string ⟨#[]⟩, .int .u8 4, .string ⟨#[90]⟩, .int .u8 5, .string ⟨#[57]⟩] 31) = V8 at *
      generalize wp.heap.size = g8 at *
      go_loopw [10] (fun i wr => ∃ k : Nat, k ≤ 8 ∧ i = .int .i64 (k : Int) ∧ Below V8.heap.size V8 wr) (fun i _ => 8 - (intOf i).toNat)
      case atStart => exact ⟨0, by omega, rfl, Below.refl _ _⟩
      case round =>
        obtain ⟨k, hk, rfl, hB⟩ := hrel
        rename World => wr
        by_cases hlt : k < 8
        · have hl8 : k < P8.length := hlt
          obtain ⟨y0, y1⟩ := HC.out wr hB k hl8
          rw [Nat.mul_comm 2 k] at y0 y1
          obtain ⟨b1, o1, rfl, _, x0, x1⟩ := (HA8.out.below (hB.mono hg8)).at2 (f := fun p : Prt => .int .u8 p.1) (g := fun p : Prt => .string (bs p.2)) (fun _ => rfl) hl8
          generalize P8[k] = p at *
          have HB := Lib.hid hB
          clear hB
          have i0 : (0 : Int) ≤ (k : Int) := by omega
          have i1 : (k : Int) < 8 := by omega
          go_wp2_with fail
          go_region
          go_wp2_with fail
          go_roundw
          case rel => exact ⟨k + 1, by omega, by go_num, HB.out.drew⟩
          case measure => first | (simp [intOf]; done) | (simp [intOf]; omega)
        · have i1 : ¬ (k : Int) < 8 := by omega
          have CZ := Lib.hid (fun W => cmp_lit W ⟨#[90]⟩ ⟨#[97]⟩ (-1) (by decide +kernel) (by decide))
          have hB := hB8.trans (hB.mono hB8.size)
          clear HA8 HC hB8
          go_wp2_with fail
          go_at_call 15
          refine (CZ.out _).mono ?_
          rintro e wn ⟨rfl, h⟩
          have hB := hB.trans (h.mono hB.size)
          clear h
          go_wp2_with fail
          go_at_call 12
          refine (SO.out _).mono ?_
          rintro e wn ⟨B, d, rfl, h⟩
          have hB := hB.trans (h.mono hB.size)
          clear h
          go_wp2_with fail
          go_at_call 11
          refine (AW.out _).mono ?_
          rintro e wn ⟨rfl, h⟩
          have hB := hB.trans (h.mono hB.size)
          clear h
          go_wp2
          go_ret
          exact ⟨rfl, hB⟩
end Go.Proofs.YtinidiiachedbaaDoor
