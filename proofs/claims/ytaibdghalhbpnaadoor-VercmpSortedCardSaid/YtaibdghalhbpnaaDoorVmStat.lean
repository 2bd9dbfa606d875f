/- VercmpRow, VercmpBehind, VercmpAhead, walked. -/
import Derived.Test.YtaibdghalhbpnaaDoorVmAwake
import Derived.Test.YtaibdghalhbpnaaDoorVmLaw2
import Derived.Test.YtaibdghalhbpnaaDoorRowLaid
namespace Go.Proofs.YtaibdghalhbpnaaDoor
open Go.RowKit Go.Shelf

theorem cmp_cat (W : World) (p q : ByteArray) (r : Int) (h : comp p.toList q.toList = r) (hp : p.size ≤ 1000000) (hq : q.size ≤ 1000000) :
    Calls Tryd.prog 39 #[.string p, .string q] W fun e w' => e = .returned (.int .i64 r) ∧ Below W.heap.size W w' := by
  subst h
  exact comp_any p q W hp hq
theorem lt1 : (⟨#[46, 126]⟩ : ByteArray).toList = [46, 126] := bs_toList _
theorem lt2 : (⟨#[46, 94]⟩ : ByteArray).toList = [46, 94] := bs_toList _
theorem lt3 : (⟨#[46, 122]⟩ : ByteArray).toList = [46, 122] := bs_toList _
theorem lt4 : (⟨#[46, 122, 122, 122]⟩ : ByteArray).toList = [46, 122, 122, 122] := bs_toList _
theorem lt5 : (⟨#[46, 48]⟩ : ByteArray).toList = [46, 48] := bs_toList _
theorem lt6 : (⟨#[126]⟩ : ByteArray).toList = [126] := bs_toList _
theorem lt7 : (⟨#[94]⟩ : ByteArray).toList = [94] := bs_toList _
theorem lt8 : (⟨#[46]⟩ : ByteArray).toList = [46] := bs_toList _
theorem cat_size (a b : ByteArray) : (a ++ b).size = a.size + b.size := ByteArray.size_append
set_option maxRecDepth 100000 in
set_option maxHeartbeats 16000000 in
theorem vercmpRow_row (w : World) (a : ByteArray) (za : a.size ≤ reachBytes) (b : ByteArray) (zb : b.size ≤ reachBytes) (c : ByteArray) (zc : c.size ≤ reachBytes) : Calls Tryd.prog 13 #[.string a, .string b, .string c] w fun e w' => e = .returned (.bool true) ∧ Below w.heap.size w w' := by
  have ra := Nat.le_trans za reach_small
  have rb := Nat.le_trans zb reach_small
  have rc := Nat.le_trans zc reach_small
  have AW := Lib.hid (fun W => awake02 W)
  have B0 : Below w.heap.size w w := Below.refl _ _
  have qa : (a.size : Int) ≤ 140737488351232 := by have : reachBytes = 140737488351232 := rfl; omega
  have qb : (b.size : Int) ≤ 140737488351232 := by have : reachBytes = 140737488351232 := rfl; omega
  have qc : (c.size : Int) ≤ 140737488351232 := by have : reachBytes = 140737488351232 := rfl; omega
  clear za zb zc
  by_cases h1 : (3000 : Int) < (a.size : Int) + (b.size : Int)
  · clear ra rb rc
    go_enter Tryd.func13, Tryd.ntmps13
    go_wp2_with fail
    go_at_call 36
    refine (AW.out _).mono ?_
    rintro e9 w9 ⟨rfl, h⟩
    go_wp2
    go_ret
    exact ⟨rfl, h⟩
  by_cases h2 : (3000 : Int) < (c.size : Int)
  · clear ra rb rc
    go_enter Tryd.func13, Tryd.ntmps13
    go_wp2_with fail
    go_at_call 36
    refine (AW.out _).mono ?_
    rintro e9 w9 ⟨rfl, h⟩
    go_wp2
    go_ret
    exact ⟨rfl, h⟩
  have sa : a.size ≤ 1000000 := by omega
  have sb : b.size ≤ 1000000 := by omega
  have sc : c.size ≤ 1000000 := by omega
  have AB := Lib.hid (fun W => comp_any a b W sa sb)
  have BC := Lib.hid (fun W => comp_any b c W sb sc)
  have AC := Lib.hid (fun W => comp_any a c W sa sc)
  have BA := Lib.hid (fun W => comp_any b a W sb sa)
  have AA := Lib.hid (fun W => comp_any a a W sa sa)
  rw [comp_neg a.toList b.toList] at BA
  rw [comp_self a.toList] at AA
  have t1 := @comp_le_trans a.toList b.toList c.toList
  have t2 := @comp_ge_trans a.toList b.toList c.toList
  have x3 := comp_three a.toList b.toList
  have y3 := comp_three b.toList c.toList
  have z3 := comp_three a.toList c.toList
  have hxy : comp a.toList b.toList = 0 → comp b.toList c.toList = comp a.toList c.toList := fun h => (comp_of_pts (comp_zero h) c.toList).symm
  generalize comp a.toList b.toList = x at *
  generalize comp b.toList c.toList = y at *
  generalize comp a.toList c.toList = z at *
  clear sa sb sc ra rb rc
  rcases x3 with rfl | rfl | rfl <;> rcases y3 with rfl | rfl | rfl <;> rcases z3 with rfl | rfl | rfl <;> first | (exfalso; revert t1 t2 hxy; decide) | skip
  all_goals
    clear t1 t2 hxy
    go_enter Tryd.func13, Tryd.ntmps13
    go_wp2_with fail
    go_at_call 36
    refine (AW.out _).mono ?_
    rintro e1 w1 ⟨rfl, h⟩
    have B1 := B0.trans (h.mono B0.size)
    clear h
    go_wp2_with fail
    go_at_call 39
    refine (AB.out _).mono ?_
    rintro e2 w2 ⟨rfl, h⟩
    have B2 := B1.trans (h.mono B1.size)
    clear h
    go_wp2_with fail
    go_at_call 39
    refine (BC.out _).mono ?_
    rintro e3 w3 ⟨rfl, h⟩
    have B3 := B2.trans (h.mono B2.size)
    clear h
    go_wp2_with fail
    go_at_call 39
    refine (AC.out _).mono ?_
    rintro e4 w4 ⟨rfl, h⟩
    have B4 := B3.trans (h.mono B3.size)
    clear h
    go_wp2_with fail
    go_at_call 39
    refine (BA.out _).mono ?_
    rintro e5 w5 ⟨rfl, h⟩
    have B5 := B4.trans (h.mono B4.size)
    clear h
    go_wp2_with fail
    go_at_call 39
    refine (AA.out _).mono ?_
    rintro e6 w6 ⟨rfl, h⟩
    have B6 := B5.trans (h.mono B5.size)
    clear h
    go_wp2
    go_ret
    exact ⟨rfl, B6⟩
set_option maxRecDepth 100000 in
set_option maxHeartbeats 16000000 in
theorem vercmpBehind_row (w : World) (a : ByteArray) (za : a.size ≤ reachBytes) (b : ByteArray) (zb : b.size ≤ reachBytes) : Calls Tryd.prog 14 #[.string a, .string b] w fun e w' => e = .returned (.bool true) ∧ Below w.heap.size w w' := by
  have AW := Lib.hid (fun W => awake02 W)
  have B0 : Below w.heap.size w w := Below.refl _ _
  have qa : (a.size : Int) ≤ 140737488351232 := by have : reachBytes = 140737488351232 := rfl; omega
  have qb : (b.size : Int) ≤ 140737488351232 := by have : reachBytes = 140737488351232 := rfl; omega
  clear za zb
  by_cases h1 : (3000 : Int) < (a.size : Int) + (b.size : Int)
  · go_enter Tryd.func14, Tryd.ntmps14
    go_wp2_with fail
    go_at_call 36
    refine (AW.out _).mono ?_
    rintro e9 w9 ⟨rfl, h⟩
    go_wp2
    go_ret
    exact ⟨rfl, h⟩
  have sa : a.size ≤ 3000 := by omega
  have sb : b.size ≤ 3000 := by omega
  have C1 := Lib.hid (fun W => cmp_cat W (a ++ ⟨#[46, 126]⟩ ++ b) a (-1) (by rw [toList_append, toList_append, List.append_assoc, lt1]; exact behind1 _ _) (by rw [cat_size, cat_size]; show a.size + 2 + b.size ≤ _; omega) (by omega))
  have C2 := Lib.hid (fun W => cmp_cat W a (a ++ ⟨#[46, 94]⟩ ++ b) (-1) (by rw [toList_append, toList_append, List.append_assoc, lt2]; exact behind2 _ _) (by omega) (by rw [cat_size, cat_size]; show a.size + 2 + b.size ≤ _; omega))
  have C3 := Lib.hid (fun W => cmp_cat W (a ++ ⟨#[46, 94]⟩ ++ b) (a ++ ⟨#[46, 122]⟩) (-1) (by rw [toList_append, toList_append, toList_append, List.append_assoc, lt2, lt3]; exact behind3 _ _) (by rw [cat_size, cat_size]; show a.size + 2 + b.size ≤ _; omega) (by rw [cat_size]; show a.size + 2 ≤ _; omega))
  have C4 := Lib.hid (fun W => cmp_cat W (a ++ ⟨#[46, 122, 122, 122]⟩) (a ++ ⟨#[46, 48]⟩) (-1) (by rw [toList_append, toList_append, lt4, lt5]; exact behind4 _) (by rw [cat_size]; show a.size + 4 ≤ _; omega) (by rw [cat_size]; show a.size + 2 ≤ _; omega))
  have C5 := Lib.hid (fun W => cmp_cat W (a ++ ⟨#[126]⟩ ++ b) a (-1) (by rw [toList_append, toList_append, List.append_assoc, lt6]; exact behind5 _ _) (by rw [cat_size, cat_size]; show a.size + 1 + b.size ≤ _; omega) (by omega))
  have C6 := Lib.hid (fun W => cmp_cat W (a ++ ⟨#[94]⟩ ++ b) a 1 (by rw [toList_append, toList_append, List.append_assoc, lt7]; exact behind6 _ _) (by rw [cat_size, cat_size]; show a.size + 1 + b.size ≤ _; omega) (by omega))
  go_enter Tryd.func14, Tryd.ntmps14
  go_wp2_with fail
  go_at_call 36
  refine (AW.out _).mono ?_
  rintro e1 w1 ⟨rfl, h⟩
  have B1 := B0.trans (h.mono B0.size)
  clear h
  go_wp2_with fail
  go_at_call 39
  refine (C1.out _).mono ?_
  rintro e2 w2 ⟨rfl, h⟩
  have B2 := B1.trans (h.mono B1.size)
  clear h
  go_wp2_with fail
  go_at_call 39
  refine (C2.out _).mono ?_
  rintro e3 w3 ⟨rfl, h⟩
  have B3 := B2.trans (h.mono B2.size)
  clear h
  go_wp2_with fail
  go_at_call 39
  refine (C3.out _).mono ?_
  rintro e4 w4 ⟨rfl, h⟩
  have B4 := B3.trans (h.mono B3.size)
  clear h
  go_wp2_with fail
  go_at_call 39
  refine (C4.out _).mono ?_
  rintro e5 w5 ⟨rfl, h⟩
  have B5 := B4.trans (h.mono B4.size)
  clear h
  go_wp2_with fail
  go_at_call 39
  refine (C5.out _).mono ?_
  rintro e6 w6 ⟨rfl, h⟩
  have B6 := B5.trans (h.mono B5.size)
  clear h
  go_wp2_with fail
  go_at_call 39
  refine (C6.out _).mono ?_
  rintro e7 w7 ⟨rfl, h⟩
  have B7 := B6.trans (h.mono B6.size)
  clear h
  go_wp2
  go_ret
  exact ⟨rfl, B7⟩
set_option maxRecDepth 100000 in
set_option maxHeartbeats 16000000 in
theorem vercmpAhead_row (w : World) (x : ByteArray) (zx : x.size ≤ reachBytes) (a : ByteArray) (za : a.size ≤ reachBytes) (b : ByteArray) (zb : b.size ≤ reachBytes) : Calls Tryd.prog 16 #[.string x, .string a, .string b] w fun e w' => e = .returned (.bool true) ∧ Below w.heap.size w w' := by
  have AW := Lib.hid (fun W => awake02 W)
  have B0 : Below w.heap.size w w := Below.refl _ _
  have qa : (a.size : Int) ≤ 140737488351232 := by have : reachBytes = 140737488351232 := rfl; omega
  have qb : (b.size : Int) ≤ 140737488351232 := by have : reachBytes = 140737488351232 := rfl; omega
  have qx : (x.size : Int) ≤ 140737488351232 := by have : reachBytes = 140737488351232 := rfl; omega
  clear za zb zx
  by_cases h1 : (3000 : Int) < (a.size : Int) + (b.size : Int)
  · go_enter Tryd.func16, Tryd.ntmps16
    go_wp2_with fail
    go_at_call 36
    refine (AW.out _).mono ?_
    rintro e9 w9 ⟨rfl, h⟩
    go_wp2
    go_ret
    exact ⟨rfl, h⟩
  by_cases h2 : (3000 : Int) < (x.size : Int)
  · go_enter Tryd.func16, Tryd.ntmps16
    go_wp2_with fail
    go_at_call 36
    refine (AW.out _).mono ?_
    rintro e9 w9 ⟨rfl, h⟩
    go_wp2
    go_ret
    exact ⟨rfl, h⟩
  have sa : a.size ≤ 3000 := by omega
  have sb : b.size ≤ 3000 := by omega
  have sx : x.size ≤ 3000 := by omega
  have C1 := Lib.hid (fun W => cmp_cat W (x ++ ⟨#[46]⟩ ++ a) (x ++ ⟨#[46]⟩ ++ b) (comp a.toList b.toList) (by rw [toList_append, toList_append, toList_append, toList_append, List.append_assoc, List.append_assoc, lt8]; exact ahead1 _ _ _) (by rw [cat_size, cat_size]; show x.size + 1 + a.size ≤ _; omega) (by rw [cat_size, cat_size]; show x.size + 1 + b.size ≤ _; omega))
  have C2 := Lib.hid (fun W => comp_any a b W (by omega) (by omega))
  generalize comp a.toList b.toList = r at *
  go_enter Tryd.func16, Tryd.ntmps16
  go_wp2_with fail
  go_at_call 36
  refine (AW.out _).mono ?_
  rintro e1 w1 ⟨rfl, h⟩
  have B1 := B0.trans (h.mono B0.size)
  clear h
  go_wp2_with fail
  go_at_call 39
  refine (C1.out _).mono ?_
  rintro e2 w2 ⟨rfl, h⟩
  have B2 := B1.trans (h.mono B1.size)
  clear h
  go_wp2_with fail
  go_at_call 39
  refine (C2.out _).mono ?_
  rintro e3 w3 ⟨rfl, h⟩
  have B3 := B2.trans (h.mono B2.size)
  clear h
  go_wp2
  go_ret
  exact ⟨rfl, B3⟩
end Go.Proofs.YtaibdghalhbpnaaDoor
